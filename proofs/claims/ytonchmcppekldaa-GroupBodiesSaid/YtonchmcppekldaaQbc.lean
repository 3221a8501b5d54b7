/- Contracts and laws, part 3 of 7: what each function of the program and of the reference computes, shown once. -/
import Derived.Below
import Derived.ChangeOld
import Derived.Defers
import Derived.OpenShut
import Derived.ProofKit
import Derived.Recover
import Derived.ShutString
import Derived.SizedLaws
import Derived.Stop.BytesEq
import Derived.WalkKit
import Derived.WideLaws
import Derived.Test.YtonchmcppekldaaQbb
set_option maxRecDepth 100000
set_option maxHeartbeats 4000000
set_option linter.unusedVariables false
set_option linter.unusedSimpArgs false
namespace Go.Eng
open Go Go.IntWalk
def cblk : Value → List Nat
 | .tuple vs => vs.toList.flatMap fun u => u.cells.toList.flatMap vblk
 | v => v.cells.toList.flatMap vblk
section
variable {P : Program} {n : NN}
def dG (l : List Oper) (p : Nat) : Bool := Nat.ble p l.length && ((List.range l.length).all fun i => !(Nat.blt p i) || depB l i (i - 1)) && (Nat.ble l.length p || (List.range p).all fun j => (List.range (p + 1)).any fun m => Nat.blt j m && depB l m j)
theorem fP {l : List Oper} {i j : Nat} (h : depB l i j = true) : ∃ o, l[i]? = some o ∧ ∃ e ∈ o.after, e.on = j ∧ Region.binds .any e = true := by
 unfold depB at h
 cases ho : l[i]? with
 | none => rw [ho] at h; cases h
 | some o =>
   rw [ho] at h
   obtain ⟨e, he, h3⟩ := List.any_eq_true.1 h
   simp only [Bool.and_eq_true, beq_iff_eq] at h3
   exact ⟨o, rfl, e, Array.mem_toList_iff.1 he, h3.1, h3.2⟩
theorem eZ {l : List Oper} {p i : Nat} (h : dG l p = true) (hi : i < l.length) (hp : p < i) : depB l i (i - 1) = true := by
 simp only [dG, Bool.and_eq_true] at h
 have h1 := List.all_eq_true.1 h.1.2 i (List.mem_range.2 hi)
 have hn : Nat.blt p i = true := Nat.ble_eq_true_of_le hp
 rw [hn] at h1; simpa using h1
theorem gP {l : List Oper} {p : Nat} {S : Nat → Prop} (h : dG l p = true) (hp : p < l.length) (hS : ∀ i j, i = p ∨ S i → depB l i j = true → S j) : ∀ d j, j < p → d = p - j → S j := by
 intro d
 induction d using Nat.strongRecOn with
 | ind d ih =>
   intro j hj hd
   simp only [dG, Bool.and_eq_true, Bool.or_eq_true] at h
   rcases h.2 with h1 | h1
   · have := Nat.le_of_ble_eq_true h1; omega
   · obtain ⟨m, hm, h2⟩ := List.any_eq_true.1 (List.all_eq_true.1 h1 j (List.mem_range.2 hj))
     simp only [Bool.and_eq_true] at h2
     have h3 := bp h2.1
     have h4 := List.mem_range.1 hm
     refine hS m j ?_ h2.2
     rcases Nat.lt_or_ge m p with h5 | h5
     · exact .inr (ih (p - m) (by omega) m h5 rfl)
     · exact .inl (by omega)
theorem du {l : List Oper} {p0 : Nat} {Q : Exit → Act → World → Prop} (hok : drawOk n l = true) (ht : dG l p0 = true) : ∀ (d p fuel : Nat) (listed : Array Bool) (a : Act) (w : World), d = l.length - p → p ≤ l.length → p0 ≤ p → d ≤ fuel → listed.size = l.length →
   (∀ i, i < l.length → listed.getD i false = decide (i < p)) → wpList P l.toArray Q (l.drop p) a w → wpAny P .any l.toArray Q fuel listed a w := by
 intro d
 induction d with
 | zero =>
   intro p fuel listed a w hd hp hp0 hf hs hl h
   have hpl : p = l.length := by omega
   subst hpl
   rw [List.drop_length] at h
   have hr : Region.ready .any l.toArray listed = [] := by
     cases hr : Region.ready .any l.toArray listed with
     | nil => rfl
     | cons i r =>
       exfalso
       have hi : i ∈ Region.ready .any l.toArray listed := by rw [hr]; simp
       obtain ⟨h0, o, ho, _⟩ := mem_ready.1 hi
       have hlt : i < l.length := by have := (Array.getElem?_eq_some_iff.1 ho).1; simpa using this
       rw [bR hs hlt true false, hl i hlt] at h0
       simp [hlt] at h0
   cases fuel with
   | zero => exact ⟨hr, h⟩
   | succ f => exact ⟨fun _ => h, fun i hi => by rw [hr] at hi; cases hi⟩
 | succ d ih =>
   intro p fuel listed a w hd hp hp0 hf hs hl h
   have hplt : p < l.length := by omega
   obtain ⟨f, rfl⟩ : ∃ f, fuel = f + 1 := ⟨fuel - 1, by omega⟩
   have hget : l[p]? = some l[p] := List.getElem?_eq_getElem hplt
   have honly : ∀ i, i ∈ Region.ready .any l.toArray listed → i = p := by
     intro i hi
     obtain ⟨h0, o, ho, hedge⟩ := mem_ready.1 hi
     have hlt : i < l.length := by have := (Array.getElem?_eq_some_iff.1 ho).1; simpa using this
     have h1 : ¬ i < p := by
       rw [bR hs hlt true false, hl i hlt] at h0
       simpa using h0
     rcases Nat.lt_or_ge p i with h2 | h2
     · obtain ⟨o', ho', e, he, h3, h4⟩ := fP (eZ ht hlt (by omega))
       rw [show l[i]? = some o from by simpa using ho] at ho'
       obtain rfl := Option.some.inj ho'
       have := hedge e he h4
       rw [h3, hl (i - 1) (by omega)] at this
       have := of_decide_eq_true this
       omega
     · omega
   have hmem : p ∈ Region.ready .any l.toArray listed := by
     refine mem_ready.2 ⟨by rw [bR hs hplt true false, hl p hplt]; simp, l[p], by simp [hget], fun e he hb => ?_⟩
     have h1 := List.all_eq_true.1 hok p (List.mem_range.2 hplt)
     simp only [hget, Bool.and_eq_true] at h1
     have h2 := List.all_eq_true.1 h1.1.2 e (Array.mem_toList_iff.2 he)
     rw [hb] at h2
     have h3 : e.on < p := bp (by simpa using h2)
     rw [hl e.on (by omega)]; simpa using h3
   refine ⟨fun hr => (by rw [hr] at hmem; cases hmem), fun i hi => ?_⟩
   have := honly i hi
   subst this
   rw [List.drop_eq_getElem_cons hplt] at h
   unfold wpOp
   rw [show l.toArray[i]? = some l[i] from by simp [hget]]
   simp only
   unfold wpList at h
   have hnext : ∀ a' w', wpList P l.toArray Q (l.drop (i + 1)) a' w' → wpAny P .any l.toArray Q f (listed.setIfInBounds i true) a' w' := by
     intro a' w' h'
     refine ih (i + 1) f _ a' w' (by omega) (by omega) (by omega) (by omega) (by simpa using hs) ?_ h'
     intro j hj
     by_cases hij : i = j
     · subst hij
       rw [Array.getD_eq_getD_getElem?]; simp [hs, hj]
     · rw [getD_set_ne false hij, hl j hj]
       by_cases h1 : j < i
       · simp [h1]; omega
       · simp [h1]; omega
   split at h
   · rename_i hw
     rw [if_pos hw]
     exact h.imp (fun h => Oper.wp_mono (fun a' w' h' => hnext a' w' h') h) id
   · rename_i hw
     rw [if_neg hw]
     exact hnext _ _ h
def dpF (l : List Oper) (vs : Nat → Value) : List Nat → Fr
 | [] => []
 | j :: r => bif hasDst l j then (dstOf l j, vs j) :: dpF l vs r else dpF l vs r
theorem j2 {l : List Oper} {vs : Nat → Value} {q : Nat × Value} : ∀ {deps : List Nat}, q ∈ dpF l vs deps → ∃ j, j ∈ deps ∧ hasDst l j = true ∧ q = (dstOf l j, vs j)
 | [], h => by cases h
 | j :: r, h => by
   unfold dpF at h
   cases hd : hasDst l j with
   | true =>
     rw [hd, cond_true, List.mem_cons] at h
     rcases h with h | h
     · exact ⟨j, by simp, hd, h⟩
     · obtain ⟨i, h1, h2, h3⟩ := j2 h
       exact ⟨i, by simp [h1], h2, h3⟩
   | false =>
     rw [hd, cond_false] at h
     obtain ⟨i, h1, h2, h3⟩ := j2 h
     exact ⟨i, by simp [h1], h2, h3⟩
theorem jc {l : List Oper} {vs : Nat → Value} {f0 : Fr} : ∀ {pre : List Nat} {t : Nat} {u : Value}, (dpF l vs pre ++ f0).get t = some u → (∃ j, j ∈ pre ∧ hasDst l j = true ∧ dstOf l j = t ∧ vs j = u) ∨ f0.get t = some u
 | [], t, u, h => .inr h
 | j :: r, t, u, h => by
   have rest : (dpF l vs r ++ f0).get t = some u → (∃ i, i ∈ j :: r ∧ hasDst l i = true ∧ dstOf l i = t ∧ vs i = u) ∨ f0.get t = some u := by
     intro h
     rcases jc (pre := r) h with ⟨i, hi, h1, h2⟩ | h1
     · exact .inl ⟨i, by simp [hi], h1, h2⟩
     · exact .inr h1
   unfold dpF at h
   cases hd : hasDst l j with
   | false => rw [hd, cond_false] at h; exact rest h
   | true =>
     rw [hd, cond_true] at h
     simp only [List.cons_append, Fr.get] at h
     by_cases e : Nat.beq (dstOf l j) t = true
     · rw [e] at h
       simp only [cond_true, Option.some.injEq] at h
       exact .inl ⟨j, by simp, hd, Nat.eq_of_beq_eq_true e, h⟩
     · have e' : Nat.beq (dstOf l j) t = false := eq_false_of_ne_true e
       rw [e'] at h
       exact rest h
def frPut (l : List Oper) (i : Nat) (v : Value) (f : Fr) : Fr := bif hasDst l i then (dstOf l i, v) :: f else f
theorem kZ {l : List Oper} {vs : Nat → Value} {i : Nat} {r : List Nat} {f0 : Fr} : dpF l vs (i :: r) ++ f0 = frPut l i (vs i) (dpF l vs r ++ f0) := by
 unfold frPut
 simp only [dpF]
 cases hasDst l i <;> rfl
section
variable {l : List Oper} {p : Nat} {T : List Nat} {f0 : Fr}
def LkA (l : List Oper) (f0 : Fr) (pre : List Nat) (vs : Nat → Value) (i : Nat) (f1 : Fr) : Prop :=
 ∀ t u, f1.get t = some u → (∃ j, j ∈ pre ∧ depB l i j = true ∧ hasDst l j = true ∧ dstOf l j = t ∧ vs j = u) ∨ f0.get t = some u
theorem nU {n : NN} (hok : drawOk n l = true) (hpl : p ≤ l.length) {pre : List Nat} {vs : Nat → Value} {i : Nat} {f1 : Fr} (hpre : ∀ j, j ∈ pre → j < p) (hs : Fr.sub f1 (dpF l vs pre.reverse ++ f0)) (h : slotsOk l p i f1 = true) : LkA l f0 pre vs i f1 := by
 intro t u ht
 rcases jc (jS hs t u ht) with ⟨j, hj, h0, h1, h2⟩ | h1
 · have hj' : j ∈ pre := by simpa using hj
   obtain ⟨q, hq, hq'⟩ := jb ht
   have h3 := List.all_eq_true.1 h q hq
   simp only [Bool.or_eq_true] at h3
   rcases h3 with h3 | h3
   · have h4 := List.all_eq_true.1 h3 j (List.mem_range.2 (hpre j hj'))
     rw [h0, hq'] at h4
     simp [h1] at h4
   · obtain ⟨j', hj1, h5⟩ := List.any_eq_true.1 h3
     simp only [Bool.and_eq_true, beq_iff_eq] at h5
     have hlt := List.mem_range.1 hj1
     have : j = j' := cr hok (Nat.lt_of_lt_of_le (hpre j hj') hpl) (Nat.lt_of_lt_of_le hlt hpl) h0 h5.2.1 (by rw [h1, h5.2.2, hq'])
     subst this
     exact .inl ⟨j, hj', h5.1, h0, h1, h2⟩
 · exact .inr h1
def RdOkA (P : Program) (n : NN) (l : List Oper) (T : List Nat) (f0 : Fr) (pre : List Nat) (vs : Nat → Value) (w : World) (i : Nat) : Prop :=
 ∃ o f1, l[i]? = some o ∧ LkA l f0 pre vs i f1 ∧ ∀ w', Keep T w w' → PStep P n l.toArray o f1 w' (fun v' w'' => v' = vs i ∧ w'' = w')
theorem LkA.mono {pre pre' : List Nat} {vs vs' : Nat → Value} {i : Nat} {f1 : Fr} (h : LkA l f0 pre vs i f1) (hm : ∀ j, j ∈ pre → j ∈ pre' ∧ vs' j = vs j) : LkA l f0 pre' vs' i f1 := by
 intro t u ht
 rcases h t u ht with ⟨j, h1, h2, h3, h4, h5⟩ | h1
 · exact .inl ⟨j, (hm j h1).1, h2, h3, h4, by rw [(hm j h1).2, h5]⟩
 · exact .inr h1
theorem RdOkA.mono {pre pre' : List Nat} {vs vs' : Nat → Value} {w w' : World} {i : Nat} (h : RdOkA P n l T f0 pre vs w i) (hi : i ∈ pre) (hm : ∀ j, j ∈ pre → j ∈ pre' ∧ vs' j = vs j) (hk : Keep T w w') : RdOkA P n l T f0 pre' vs' w' i := by
 obtain ⟨o, f1, h1, h2, h3⟩ := h
 refine ⟨o, f1, h1, h2.mono hm, fun w2 hk2 => ?_⟩
 rw [(hm i hi).2]
 exact h3 w2 (hk.trans hk2)
theorem iY {vs : Nat → Value} {i : Nat} {v : Value} : ∀ {pre : List Nat}, i ∉ pre → dpF l (setV vs i v) pre = dpF l vs pre
 | [], _ => rfl
 | j :: r, h => by
   simp only [dpF]
   rw [dM vs v (fun e => h (by simp [e])), iY (pre := r) (fun hm => h (by simp [hm]))]
theorem nZ {pre : List Nat} {vs : Nat → Value} {i : Nat} {f1 : Fr} {a : Act} (hk : Kn n f0 a) (hl : LkA l f0 pre vs i f1) (hd : ∀ j, depB l i j = true → j ∈ pre → hasDst l j = true → a.tmps.getD (dstOf l j) undef = vs j) : Kn n f1 a := by
 refine ⟨hk.size, hk.defers, fun t u ht => ?_⟩
 rcases hl t u ht with ⟨j, h1, h2, h3, h4, h5⟩ | h1
 · rw [← h4, ← h5]; exact hd j h2 h1 h3
 · exact hk.get t u h1
end
def planOkA (n : Nat) (l : List Oper) (p : Nat) (plan : List Nat) (cb : Nat → Bool) (fl : List Nat) : Bool :=
 drawOk n l && dG l p && plan.all (fun i => Nat.blt i p && (hasDst l i || cb i)) && (List.range p).all (fun i => plan.contains i || fl.contains i) && eager l cb plan && fl.all (fun i => Nat.blt i p && !plan.contains i)
def PA (P : Program) (n : NN) (l : List Oper) (p : Nat) (T : List Nat) (O : Nat → Prop) (cb : Nat → Bool) (Fin : Fr → World → Prop) : List Nat → Fr → World → Prop
 | [], f, w => Fin f w
 | i :: r, f, w => ∃ o f1, l[i]? = some o ∧ Fr.sub f1 f ∧ slotsOk l p i f1 = true ∧
   ((cb i = true ∧ ∀ w1, Keep [] w w1 → PStep P n l.toArray o f1 w1 (fun v w' => Keep T w1 w' ∧ (∀ x, x ∈ cblk v → (O x ∨ w1.heap.size ≤ x) ∧ x < w'.heap.size) ∧ PA P n l p T O cb Fin r (frPut l i v f) w')) ∨
    (cb i = false ∧ ∃ v, (∀ w', Keep T w w' → PStep P n l.toArray o f1 w' (fun v' w'' => v' = v ∧ w'' = w')) ∧ PA P n l p T O cb Fin r (frPut l i v f) w))
theorem PA.grow {l : List Oper} {p : Nat} {T : List Nat} {O : Nat → Prop} {cb : Nat → Bool} {Fin : Fr → World → Prop} (hF : ∀ f w w', Keep [] w w' → Fin f w → Fin f w') : ∀ (pl : List Nat) (f : Fr) (w w' : World), Keep [] w w' → PA P n l p T O cb Fin pl f w → PA P n l p T O cb Fin pl f w'
 | [], f, w, w', k, h => by unfold PA at *; exact hF _ _ _ k h
 | i :: r, f, w, w', k, h => by
   unfold PA at *
   obtain ⟨o, f1, h1, h2, h3, h4⟩ := h
   refine ⟨o, f1, h1, h2, h3, ?_⟩
   rcases h4 with ⟨hc, h4⟩ | ⟨hc, v, h5, h6⟩
   · exact .inl ⟨hc, fun w1 k1 => h4 w1 (k.trans k1)⟩
   · exact .inr ⟨hc, v, fun w1 k1 => h5 w1 (k.weak.trans k1), PA.grow hF r _ w w' k h6⟩
section
variable {l : List Oper} {p : Nat} {T : List Nat} {O : Nat → Prop} {cb : Nat → Bool} {Fin : Fr → World → Prop} {f0 : Fr}
theorem absorbA {n : NN} (hok : drawOk n l = true) (hpl : p ≤ l.length) : ∀ (rest pre : List Nat) (vs : Nat → Value) (w : World), eager l cb (pre ++ rest) = true → (∀ j, j ∈ pre ++ rest → j < p ∧ (hasDst l j = true ∨ cb j = true)) → PA P n l p T O cb Fin rest (dpF l vs pre.reverse ++ f0) w →
   (∀ i, i ∈ pre → cb i = false → RdOkA P n l T f0 pre vs w i) → ∃ pre' rest' vs', pre ++ rest = pre' ++ rest' ∧ (∀ i, i ∈ pre → i ∈ pre' ∧ vs' i = vs i) ∧ (∀ i, i ∈ pre' → i ∈ pre ∨ cb i = false) ∧ (∀ c r, rest' = c :: r → cb c = true) ∧
     PA P n l p T O cb Fin rest' (dpF l vs' pre'.reverse ++ f0) w ∧ ∀ i, i ∈ pre' → cb i = false → RdOkA P n l T f0 pre' vs' w i
 | [], pre, vs, w, _, _, h, hr => ⟨pre, [], vs, rfl, fun i hi => ⟨hi, rfl⟩, fun i hi => .inl hi, (fun c r h => by cases h), h, hr⟩
 | i :: r, pre, vs, w, he, hb, h, hr => by
   have h0 := h
   unfold PA at h
   obtain ⟨o, f1, h1, h2, h3, h4⟩ := h
   rcases h4 with ⟨hc, _⟩ | ⟨hc, v, h5, h6⟩
   · exact ⟨pre, i :: r, vs, rfl, fun i hi => ⟨hi, rfl⟩, fun i hi => .inl hi, (fun c r h => by cases h; exact hc), h0, hr⟩
   · have hni : i ∉ pre := fun hm => (cW he).2 i hm (by simp)
     have hlk := nU (f0 := f0) hok hpl (fun j hj => (hb j (by simp [hj])).1) h2 h3
     have hm : ∀ j, j ∈ pre → j ∈ pre ++ [i] ∧ setV vs i v j = vs j := fun j hj => ⟨by simp [hj], dM vs v (fun e => hni (e ▸ hj))⟩
     have hnr : i ∉ pre.reverse := by simpa using hni
     obtain ⟨pre', rest', vs', k1, k2, k3, k4, k5, k6⟩ := absorbA hok hpl r (pre ++ [i]) (setV vs i v) w (by simpa using he) (by simpa using hb)
       (by rw [List.reverse_append, List.reverse_singleton, List.singleton_append, kZ, dA, iY hnr]; exact h6)
       (fun j hj hcj => by
         rcases List.mem_append.1 hj with h | h
         · exact (hr j h hcj).mono h hm (Keep.refl _ _)
         · rw [List.mem_singleton] at h
           subst h
           refine ⟨o, f1, h1, hlk.mono hm, fun w2 hk2 => ?_⟩
           rw [dA]; exact h5 w2 hk2)
     refine ⟨pre', rest', vs', by simpa using k1, fun j hj => ?_, fun j hj => ?_, k4, k5, k6⟩
     · obtain ⟨q1, q2⟩ := k2 j (hm j hj).1
       exact ⟨q1, q2.trans (hm j hj).2⟩
     · rcases k3 j hj with h | h
       · rcases List.mem_append.1 h with h | h
         · exact .inl h
         · rw [List.mem_singleton] at h; subst h; exact .inr hc
       · exact .inr h
end
variable {fin : Exit → Act → World → Prop} {k : List KI} {f : Fr} {w : World}
def FinA (P : Program) (fin : Exit → Act → World → Prop) (n : NN) (k : List KI) (l : List Oper) (p s0 : Nat) (cs : List Nat) (fc : Fr) : List (Nat × TypeId × List Value) → List Nat → Fr → World → Prop
 | [], _, f, w => OW P fin n k l.toArray (l.drop p) f w
 | q :: r, seen, f, w => ∀ b, s0 ≤ b → b < w.heap.size → Bk w b q.2.1 q.2.2 → (∀ x, x ∈ seen → x ≠ b) → (∀ j, j ∈ cs → hasDst l j = true → ∀ v, fc.get (dstOf l j) = some v → ∀ x, x ∈ cblk v → x ≠ b) →
   FinA P fin n k l p s0 cs fc r (b :: seen) ((dstOf l q.1, .pointer (some ⟨b, 0, none⟩)) :: f) w
def flFr (l : List Oper) (bs : Nat → Nat) : List (Nat × TypeId × List Value) → Fr → Fr
 | [], f => f
 | q :: r, f => flFr l bs r ((dstOf l q.1, .pointer (some ⟨bs q.1, 0, none⟩)) :: f)
theorem FinA.use {l : List Oper} {p s0 : Nat} {cs : List Nat} {fc : Fr} {bs : Nat → Nat} : ∀ {fl : List (Nat × TypeId × List Value)} {seen : List Nat} {f : Fr} {w : World}, FinA P fin n k l p s0 cs fc fl seen f w →
   (∀ q, q ∈ fl → s0 ≤ bs q.1 ∧ bs q.1 < w.heap.size ∧ Bk w (bs q.1) q.2.1 q.2.2 ∧ (∀ j, j ∈ cs → hasDst l j = true → ∀ v, fc.get (dstOf l j) = some v → ∀ x, x ∈ cblk v → x ≠ bs q.1) ∧ (∀ x, x ∈ seen → x ≠ bs q.1)) →
   (fl.map (·.1)).Nodup → (∀ q q', q ∈ fl → q' ∈ fl → q.1 ≠ q'.1 → bs q.1 ≠ bs q'.1) → OW P fin n k l.toArray (l.drop p) (flFr l bs fl f) w
 | [], seen, f, w, h, _, _, _ => h
 | q :: r, seen, f, w, h, hq, hnd, hd => by
   obtain ⟨h1, h2, h3, h4, h5⟩ := hq q (by simp)
   have hnd' := List.nodup_cons.1 hnd
   refine FinA.use (fl := r) (f := (dstOf l q.1, .pointer (some ⟨bs q.1, 0, none⟩)) :: f) (h (bs q.1) h1 h2 h3 h5 h4) (fun q' hq' => ?_) hnd'.2 (fun a b ha hb => hd a b (by simp [ha]) (by simp [hb]))
   obtain ⟨g1, g2, g3, g4, g5⟩ := hq q' (by simp [hq'])
   refine ⟨g1, g2, g3, g4, fun x hx => ?_⟩
   rcases List.mem_cons.1 hx with rfl | hx
   · exact hd q q' (by simp) (by simp [hq']) (fun e => hnd'.1 (List.mem_map.2 ⟨q', hq', e.symm⟩))
   · exact g5 x hx
theorem nd_eq {q q' : Nat × TypeId × List Value} : ∀ {fl : List (Nat × TypeId × List Value)}, (fl.map (·.1)).Nodup → q ∈ fl → q' ∈ fl → q.1 = q'.1 → q' = q
 | [], _, h, _, _ => by cases h
 | a :: r, hn, h1, h2, he => by
   have hn' := List.nodup_cons.1 hn
   rcases List.mem_cons.1 h1 with e1 | h1 <;> rcases List.mem_cons.1 h2 with e2 | h2
   · rw [e1, e2]
   · exact absurd (List.mem_map.2 ⟨q', h2, by rw [← he, e1]⟩) hn'.1
   · exact absurd (List.mem_map.2 ⟨q, h1, by rw [he, e2]⟩) hn'.1
   · exact nd_eq hn'.2 h1 h2 he
theorem lh {l : List Oper} {bs : Nat → Nat} {a : Act} : ∀ {fl : List (Nat × TypeId × List Value)} {f : Fr}, Kn n f a → (∀ q, q ∈ fl → a.tmps.getD (dstOf l q.1) undef = .pointer (some ⟨bs q.1, 0, none⟩)) → Kn n (flFr l bs fl f) a
 | [], f, h, _ => h
 | q :: r, f, h, hq => by
   refine lh (fl := r) ?_ (fun q' hq' => hq q' (by simp [hq']))
   have := Kn.app (n := n) (g := [(dstOf l q.1, .pointer (some ⟨bs q.1, 0, none⟩))]) (f := f) (a := a) (fun p hp => by
     rw [List.mem_singleton] at hp; subst hp; exact hq q (by simp)) h
   exact this
def FlOk (P : Program) (l : List Oper) (q : Nat × TypeId × List Value) : Prop := ∃ d ty pos aft s by_, l[q.1]? = some ⟨some d, .alloc q.2.1, ty, pos, aft, none⟩ ∧ Ty P q.2.1 q.2.2 s by_
def setB (bs : Nat → Nat) (i b : Nat) : Nat → Nat := fun j => bif Nat.beq j i then b else bs j
theorem dN (bs : Nat → Nat) (i b : Nat) : setB bs i b i = b := by simp [setB]
theorem e6 (bs : Nat → Nat) {i j : Nat} (b : Nat) (h : j ≠ i) : setB bs i b j = bs j := by
 unfold setB
 cases hb : Nat.beq j i with
 | false => rfl
 | true => exact absurd (Nat.eq_of_beq_eq_true hb) h
theorem ca {id : Nat} {l : List Oper} (p : Nat) (plan : List Nat) (cs : List Nat) (T : List Nat) (fl : List (Nat × TypeId × List Value)) (hm : P.follows .mixedOrders = true) (f0 : Fr) (hf : Fr.sub f0 f) (hok : planOkA n l p plan (fun i => cs.contains i) (fl.map (·.1)) = true) (hnd : (fl.map (·.1)).Nodup) (hcs : cs.all (fun i => plan.contains i) = true) (hfl : ∀ q, q ∈ fl → FlOk P l q) (hT : ∀ x, x ∈ T → x < w.heap.size) (hfree0 : freeOk (l.take p) f0 = true)
    (h : ∀ w1, Keep [] w w1 → PA P n l p T (fun x => x < w.heap.size ∨ fl = []) (fun i => cs.contains i) (fun f' w' => ∀ w2, Keep [] w' w2 → FinA P fin n k l p w.heap.size cs f' fl [] f' w2) plan f0 w1) :
    TW P fin n (.c (.region id l.toArray true) :: k) f w := by
  intro a ha
  simp only [KQ]
  have ha0 := ha.sub hf
  simp only [planOkA, Bool.and_eq_true] at hok
  obtain ⟨⟨⟨⟨⟨hdr, ht⟩, hall⟩, hcov⟩, heag⟩, hfla⟩ := hok
  have hfl1 : ∀ q, q ∈ fl → q.1 < p ∧ q.1 ∉ plan := by
    intro q hq
    have := List.all_eq_true.1 hfla q.1 (List.mem_map.2 ⟨q, hq, rfl⟩)
    simp only [Bool.and_eq_true, Bool.not_eq_true'] at this
    exact ⟨bp this.1, by simpa using this.2⟩
  have hcsp : ∀ j, j ∈ cs → j ∈ plan := by
    intro j hj
    have := List.all_eq_true.1 hcs j hj
    simpa using this
  have hpl : p ≤ l.length := by simp only [dG, Bool.and_eq_true] at ht; exact Nat.le_of_ble_eq_true ht.1.1
  have hplan : ∀ j, j ∈ plan → j < p ∧ (hasDst l j = true ∨ cs.contains j = true) := by
    intro j hj
    have := List.all_eq_true.1 hall j hj
    simp only [Bool.and_eq_true, Bool.or_eq_true] at this
    exact ⟨bp this.1, this.2⟩
  have hmem : ∀ j, j < p → j ∈ plan ∨ ∃ q, q ∈ fl ∧ q.1 = j := by
    intro j hj
    have := List.all_eq_true.1 hcov j (List.mem_range.2 hj)
    simp only [Bool.or_eq_true, List.contains_iff_mem, List.mem_map] at this
    exact this
  have hgrow : ∀ f' w1 w2, Keep [] w1 w2 → (∀ w3, Keep [] w1 w3 → FinA P fin n k l p w.heap.size cs f' fl [] f' w3) → (∀ w3, Keep [] w2 w3 → FinA P fin n k l p w.heap.size cs f' fl [] f' w3) := fun f' w1 w2 k1 h w3 k3 => h w3 (k1.trans k3)
  have hfree : ∀ i, i < p → hasDst l i = true → f0.get (dstOf l i) = none := by
    intro i hi hd
    have e1 : dstOf (l.take p) i = dstOf l i := by unfold dstOf; rw [List.getElem?_take, if_pos hi]
    have e2 : hasDst (l.take p) i = hasDst l i := by unfold hasDst; rw [List.getElem?_take, if_pos hi]
    rw [← e1]
    exact bu (l := l.take p) (by rw [List.length_take]; omega) (by rw [e2]; exact hd) hfree0
  have hend : ∀ (listed : Array Bool) (a : Act) (w' : World), Kn n f0 a → (∀ i, i < p → listed.getD i false = true) → w.heap.size ≤ w'.heap.size →
      (∃ pre rest vs, ∃ bs : Nat → Nat, plan = pre ++ rest ∧ (∀ c r, rest = c :: r → cs.contains c = true) ∧ PA P n l p T (fun x => x < w.heap.size ∨ fl = []) (fun i => cs.contains i) (fun f' w' => ∀ w2, Keep [] w' w2 → FinA P fin n k l p w.heap.size cs f' fl [] f' w2) rest (dpF l vs pre.reverse ++ f0) w' ∧
        (∀ i, i ∈ pre → cs.contains i = false → RdOkA P n l T f0 pre vs w' i) ∧ (∀ i, i ∈ pre → cs.contains i = true → listed.getD i false = true) ∧ (∀ i, listed.getD i false = true → (∃ q, q ∈ fl ∧ q.1 = i) ∨ i ∈ pre ∧ (hasDst l i = true → a.tmps.getD (dstOf l i) undef = vs i)) ∧
        (∀ q, q ∈ fl → listed.getD q.1 false = true → a.tmps.getD (dstOf l q.1) undef = .pointer (some ⟨bs q.1, 0, none⟩) ∧ w.heap.size ≤ bs q.1 ∧ bs q.1 < w'.heap.size ∧ Bk w' (bs q.1) q.2.1 q.2.2 ∧ ∀ j, j ∈ pre → cs.contains j = true → ∀ x, x ∈ cblk (vs j) → x ≠ bs q.1) ∧
        (∀ j, j ∈ pre → cs.contains j = true → ∀ x, x ∈ cblk (vs j) → x < w'.heap.size) ∧
        (∀ q q', q ∈ fl → q' ∈ fl → listed.getD q.1 false = true → listed.getD q'.1 false = true → q.1 ≠ q'.1 → bs q.1 ≠ bs q'.1)) →
      wpList P l.toArray (KQ P fin k) (l.drop p) a w' := by
    intro listed a w' hk hlist hsz hst
    obtain ⟨pre, rest, vs, bs, h1, h2, h3, h4, h5, h6, h7, h8, h9⟩ := hst
    have hnf : ∀ c, c ∈ plan → ¬ ∃ q, q ∈ fl ∧ q.1 = c := fun c hc ⟨q, hq, he⟩ => (hfl1 q hq).2 (he ▸ hc)
    have hrest : rest = [] := by
      cases rest with
      | nil => rfl
      | cons c r =>
        exfalso
        have hcp : c ∈ plan := by rw [h1]; simp
        have hc := hplan c hcp
        rcases h6 c (hlist c hc.1) with h | h
        · exact hnf c hcp h
        · exact (cW (pre := pre) (h1 ▸ heag)).2 c h.1 (by simp)
    subst hrest
    have hF := h3
    unfold PA at hF
    have hpre : ∀ j, j ∈ pre → j ∈ plan := fun j hj => by rw [h1]; simp [hj]
    have hkF : Kn n (dpF l vs pre.reverse ++ f0) a := Kn.app (by
      intro q hq
      obtain ⟨j, hj, hjd, rfl⟩ := j2 hq
      have hj' : j ∈ pre := by simpa using hj
      rcases h6 j (hlist j (hplan j (hpre j hj')).1) with h | h
      · exact absurd h (hnf j (hpre j hj'))
      · exact h.2 hjd) hk
    refine FinA.use (bs := bs) (hF w' (Keep.refl _ _)) (fun q hq => ?_) hnd (fun q q' hq hq' hne => h9 q q' hq hq' (hlist _ (hfl1 q hq).1) (hlist _ (hfl1 q' hq').1) hne) a (lh hkF (fun q hq => (h7 q hq (hlist _ (hfl1 q hq).1)).1))
    obtain ⟨_, g2, g3, g4, g5⟩ := h7 q hq (hlist _ (hfl1 q hq).1)
    refine ⟨g2, g3, g4, fun j hj hjd v hv x hx => ?_, fun x hx => by cases hx⟩
    have hjp := hcsp j hj
    rcases jc hv with ⟨j', hj', e0, e1, e2⟩ | e1
    · have hj2 : j' ∈ pre := by simpa using hj'
      have : j' = j := cr hdr (Nat.lt_of_lt_of_le (hplan j' (hpre j' hj2)).1 hpl) (Nat.lt_of_lt_of_le (hplan j hjp).1 hpl) e0 hjd e1
      subst this; subst e2
      exact g5 j' hj2 (by simpa using hj) x hx
    · rw [hfree j (hplan j hjp).1 hjd] at e1; cases e1
  refine wp_region_any hm ?_
  have key : ∀ (fuel : Nat) (listed : Array Bool) (a : Act) (w' : World), listed.size = l.length → left l.length listed ≤ fuel → Kn n f0 a → (∀ i, p ≤ i → i < l.length → listed.getD i false = false) → (∀ i, listed.getD i false = true → i < p) →
      (∀ i j, listed.getD i false = true → depB l i j = true → listed.getD j false = true) → w.heap.size ≤ w'.heap.size →
      (∃ pre rest vs, ∃ bs : Nat → Nat, plan = pre ++ rest ∧ (∀ c r, rest = c :: r → cs.contains c = true) ∧ PA P n l p T (fun x => x < w.heap.size ∨ fl = []) (fun i => cs.contains i) (fun f' w' => ∀ w2, Keep [] w' w2 → FinA P fin n k l p w.heap.size cs f' fl [] f' w2) rest (dpF l vs pre.reverse ++ f0) w' ∧
        (∀ i, i ∈ pre → cs.contains i = false → RdOkA P n l T f0 pre vs w' i) ∧ (∀ i, i ∈ pre → cs.contains i = true → listed.getD i false = true) ∧ (∀ i, listed.getD i false = true → (∃ q, q ∈ fl ∧ q.1 = i) ∨ i ∈ pre ∧ (hasDst l i = true → a.tmps.getD (dstOf l i) undef = vs i)) ∧
        (∀ q, q ∈ fl → listed.getD q.1 false = true → a.tmps.getD (dstOf l q.1) undef = .pointer (some ⟨bs q.1, 0, none⟩) ∧ w.heap.size ≤ bs q.1 ∧ bs q.1 < w'.heap.size ∧ Bk w' (bs q.1) q.2.1 q.2.2 ∧ ∀ j, j ∈ pre → cs.contains j = true → ∀ x, x ∈ cblk (vs j) → x ≠ bs q.1) ∧
        (∀ j, j ∈ pre → cs.contains j = true → ∀ x, x ∈ cblk (vs j) → x < w'.heap.size) ∧
        (∀ q q', q ∈ fl → q' ∈ fl → listed.getD q.1 false = true → listed.getD q'.1 false = true → q.1 ≠ q'.1 → bs q.1 ≠ bs q'.1)) →
      wpAny P .any l.toArray (KQ P fin k) fuel listed a w' := by
    intro fuel
    induction fuel with
    | zero =>
      intro listed a w' hs hle hk hun hlp hcl hsz hst
      have hlist : ∀ i, i < l.length → listed.getD i false = true := by
        intro i hi
        cases hc : listed.getD i false with
        | true => rfl
        | false =>
          exfalso
          have := cc hi hs (by rw [bR hs hi true false]; exact hc)
          omega
      have hpe : p = l.length := by
        rcases Nat.lt_or_ge p l.length with h1 | h1
        · have := hun p (Nat.le_refl _) h1; rw [hlist p h1] at this; cases this
        · omega
      refine du hdr ht 0 p 0 listed a w' (by omega) hpl (Nat.le_refl _) (Nat.le_refl _) hs (fun i hi => by rw [hlist i hi]; simp; omega) ?_
      exact hend listed a w' hk (fun i hi => hlist i (by omega)) hsz hst
    | succ fuel ih =>
      intro listed a w' hs hle hk hun hlp hcl hsz hst
      by_cases hfull : ∀ i, i < p → listed.getD i false = true
      · refine du hdr ht (l.length - p) p (fuel + 1) listed a w' rfl hpl (Nat.le_refl _) ?_ hs (fun i hi => ?_) (hend listed a w' hk hfull hsz hst)
        · refine Nat.le_trans ?_ hle
          unfold left
          have e1 : l.length - p = ((List.range' p (l.length - p)).countP fun i => !listed.getD i true) := by
            rw [List.countP_eq_length.2 (fun i hi => ?_)]
            · simp
            · rw [List.mem_range'_1] at hi
              rw [bR hs (by omega) true false, hun i (by omega) (by omega)]; rfl
          rw [e1]
          have e2 : List.range l.length = List.range p ++ List.range' p (l.length - p) := by
            have e3 := List.range'_append_1 (s := 0) (m := p) (n := l.length - p)
            rw [Nat.zero_add] at e3
            rw [List.range_eq_range', List.range_eq_range', e3]; congr 1; omega
          rw [e2, List.countP_append]; omega
        · by_cases hip : i < p
          · rw [hfull i hip]; simp [hip]
          · rw [hun i (by omega) hi]; simp [hip]
      · obtain ⟨pre, rest, vs, bs, h1, h2, h3, h4, h5, h6, h7, h8, h9⟩ := hst
        have hnf : ∀ c, c ∈ plan → ¬ ∃ q, q ∈ fl ∧ q.1 = c := fun c hc ⟨q, hq, he⟩ => (hfl1 q hq).2 (he ▸ hc)
        obtain ⟨q, hq⟩ := Classical.not_forall.1 hfull
        obtain ⟨hq1, hq2⟩ := Classical.not_imp.1 hq
        have hq2 : listed.getD q false = false := eq_false_of_ne_true hq2
        refine ⟨fun hr => (by
          have := dP hdr rfl hs hr q (by omega)
          rw [hq2] at this; cases this), fun i hi => ?_⟩
        obtain ⟨h0, o, ho, hedge⟩ := mem_ready.1 hi
        have ho' : l[i]? = some o := by simpa using ho
        have hlt : i < l.length := (List.getElem?_eq_some_iff.1 ho').1
        have hdepl : ∀ j, depB l i j = true → listed.getD j false = true := by
          intro j hj
          simp only [depB, ho'] at hj
          obtain ⟨e, he, h7⟩ := List.any_eq_true.1 hj
          simp only [Bool.and_eq_true, beq_iff_eq] at h7
          have := hedge e (Array.mem_toList_iff.1 he) h7.2
          rwa [h7.1] at this
        have hip : i < p := by
          rcases Nat.lt_or_ge i p with h7 | h7
          · exact h7
          · exfalso
            rcases Nat.lt_or_ge p i with h8 | h8
            · have := hdepl _ (eZ ht hlt h8)
              rw [hun (i - 1) (by omega) (by omega)] at this; cases this
            · have hpi : i = p := by omega
              have := gP (S := fun j => listed.getD j false = true) ht (by omega) (fun m j hm hd => hm.elim (fun e => hdepl j (by rw [hpi, ← e]; exact hd)) (fun hl => hcl m j hl hd)) _ q hq1 rfl
              rw [hq2] at this; cases this
        have hil : listed.getD i false = false := by rw [bR hs hlt false true]; exact h0
        have hidn : ∀ d, o.dst = some d → hasDst l i = true ∧ dstOf l i = d ∧ d < n := by
          intro d hd
          have hdd : dstOf l i = d := by simp [dstOf, ho', hd]
          refine ⟨by simp [hasDst, ho', hd], hdd, ?_⟩
          have h8 := List.all_eq_true.1 hdr i (List.mem_range.2 hlt)
          simp only [ho', Bool.and_eq_true] at h8
          rw [hdd] at h8
          exact bp h8.1.1
        have hids : hasDst l i = true → ∃ d, o.dst = some d := by
          intro hid
          unfold hasDst at hid; rw [ho'] at hid
          cases hd : o.dst with
          | none => rw [Option.bind_some, hd] at hid; cases hid
          | some d => exact ⟨d, rfl⟩
        have hleft := cc hlt hs h0
        have hun' : ∀ j, p ≤ j → j < l.length → (listed.setIfInBounds i true).getD j false = false := fun j h1 h2 => by rw [getD_set_ne false (by omega)]; exact hun j h1 h2
        have hlp' : ∀ j, (listed.setIfInBounds i true).getD j false = true → j < p := by
          intro j hj
          by_cases hij : i = j
          · subst hij; exact hip
          · rw [getD_set_ne false hij] at hj; exact hlp j hj
        have hcl' : ∀ m j, (listed.setIfInBounds i true).getD m false = true → depB l m j = true → (listed.setIfInBounds i true).getD j false = true := by
          intro m j hm hd
          have hj : listed.getD j false = true := by
            by_cases him : i = m
            · exact hdepl j (him ▸ hd)
            · rw [getD_set_ne false him] at hm; exact hcl m j hm hd
          by_cases hij : i = j
          · subst hij; rw [hil] at hj; cases hj
          · rw [getD_set_ne false hij]; exact hj
        have hput : ∀ v, hasDst l i = true → (a.put o.dst v).tmps.getD (dstOf l i) undef = v := by
          intro v hid
          obtain ⟨d, hod⟩ := hids hid
          obtain ⟨_, hdd, hdn⟩ := hidn d hod
          rw [hdd, hod]; simp [Act.put, Array.getD_eq_getD_getElem?, hk.size, hdn]
        have hputo : ∀ v j, j < p → hasDst l j = true → i ≠ j → (a.put o.dst v).tmps.getD (dstOf l j) undef = a.tmps.getD (dstOf l j) undef := by
          intro v j hj hdj hij
          cases hod : o.dst with
          | none => rfl
          | some d =>
            obtain ⟨hid, hdd, hdn⟩ := hidn d hod
            have hne : d ≠ dstOf l j := fun e => hij (cr hdr hlt (by omega) hid hdj (by rw [hdd, e]))
            simp only [Act.put, Array.getD_eq_getD_getElem?]; rw [Array.getElem?_setIfInBounds_ne hne]
        have hkput : ∀ v, Kn n f0 (a.put o.dst v) := by
          intro v
          cases hod : o.dst with
          | none => exact hk
          | some d =>
            obtain ⟨hid, hdd, hdn⟩ := hidn d hod
            exact hk.putOther (by rw [← hdd]; exact hfree i hip hid) v
        have hpre : ∀ j, j ∈ pre → j ∈ plan := fun j hj => by rw [h1]; simp [hj]
        have hpredep : ∀ j, depB l i j = true → j ∈ pre → hasDst l j = true → a.tmps.getD (dstOf l j) undef = vs j := fun j hj hjp hjd => (h6 j (hdepl j hj)).elim (fun h => absurd h (hnf j (hpre j hjp))) (fun h => h.2 hjd)
        have hfd : ∀ q, q ∈ fl → hasDst l q.1 = true := by
          intro q hq
          obtain ⟨d, ty, pos, aft, s, by_, hg, _⟩ := hfl q hq
          unfold hasDst; rw [hg]; rfl
        have step : ∀ f1, Kn n f1 a → ∀ R : Value → World → Prop, PStep P n l.toArray o f1 w' R → (∀ v w2, R v w2 → wpAny P .any l.toArray (KQ P fin k) fuel (listed.setIfInBounds i true) (a.put o.dst v) w2) → wpOp P l.toArray (KQ P fin k) i (wpAny P .any l.toArray (KQ P fin k) fuel (listed.setIfInBounds i true)) a w' := by
          intro f1 hkf R hp hn
          obtain ⟨p1, p2⟩ := hp a hkf (wpAny P .any l.toArray (KQ P fin k) fuel (listed.setIfInBounds i true)) (KQ P fin k) hn
          unfold wpOp
          rw [ho]
          simp only
          by_cases hw : Region.wanted o (yielded l.toArray a.tmps) = true
          · rw [if_pos hw]; exact .inl (p1 hw)
          · rw [if_neg hw]; exact p2 (eq_false_of_ne_true hw)
        rcases hmem i hip with hpl1 | ⟨q, hqf, hqi⟩
        · have hpm := hpl1
          rw [h1] at hpm
          have hifl : ∀ q, q ∈ fl → i ≠ q.1 := fun q hq e => hnf i hpl1 ⟨q, hq, e.symm⟩
          rcases List.mem_append.1 hpm with hpre1 | hrs
          · have hcb : cs.contains i = false := by
              cases hc : cs.contains i with
              | false => rfl
              | true => have := h5 i hpre1 hc; rw [hil] at this; cases this
            obtain ⟨o2, f1, g1, g2, g3⟩ := h4 i hpre1 hcb
            rw [ho'] at g1
            simp only [Option.some.injEq] at g1
            subst g1
            refine step f1 (nZ hk g2 hpredep) _ (g3 w' (Keep.refl _ _)) ?_
            rintro v w2 ⟨rfl, rfl⟩
            refine ih _ _ _ (by simpa using hs) (by omega) (hkput _) hun' hlp' hcl' hsz ⟨pre, rest, vs, bs, h1, h2, h3, h4, fun j hj hc => ?_, fun j hj => ?_, fun q hq hlq => ?_, h8, fun q q' hq hq' hl1 hl2 => ?_⟩
            · by_cases hij : i = j
              · subst hij; rw [hcb] at hc; cases hc
              · rw [getD_set_ne false hij]; exact h5 j hj hc
            · by_cases hij : i = j
              · subst hij; exact .inr ⟨hpre1, hput _⟩
              · rw [getD_set_ne false hij] at hj
                rcases h6 j hj with h | ⟨m1, m2⟩
                · exact .inl h
                · have hpj := hplan j (hpre j m1)
                  exact .inr ⟨m1, fun hjd => by rw [hputo _ j hpj.1 hjd hij]; exact m2 hjd⟩
            · rw [getD_set_ne false (hifl q hq)] at hlq
              obtain ⟨m1, m2⟩ := h7 q hq hlq
              exact ⟨by rw [hputo _ q.1 (hfl1 q hq).1 (hfd q hq) (hifl q hq)]; exact m1, m2⟩
            · rw [getD_set_ne false (hifl q hq)] at hl1
              rw [getD_set_ne false (hifl q' hq')] at hl2
              exact h9 q q' hq hq' hl1 hl2
          · cases rest with
            | nil => cases hrs
            | cons c r =>
              have hcc := h2 c r rfl
              rw [h1] at heag
              obtain ⟨he1, he2⟩ := cW heag
              rcases List.mem_cons.1 hrs with hic | hir
              · subst hic
                have h30 := h3
                unfold PA at h30
                obtain ⟨o2, f1, g1, g2, g3, g4⟩ := h30
                rw [ho'] at g1
                simp only [Option.some.injEq] at g1
                subst g1
                rcases g4 with ⟨_, g4⟩ | ⟨g4, _⟩
                · have hlk := nU (f0 := f0) hdr hpl (fun j hj => (hplan j (hpre j hj)).1) g2 g3
                  refine step f1 (nZ hk hlk hpredep) _ (g4 w' (Keep.refl _ _)) ?_
                  rintro v w2 ⟨hkw, hcv, hpw⟩
                  have hni : i ∉ pre := fun hm => he2 i hm (by simp)
                  have hnr : i ∉ pre.reverse := by simpa using hni
                  have hmm : ∀ j, j ∈ pre → j ∈ pre ++ [i] ∧ setV vs i v j = vs j := fun j hj => ⟨by simp [hj], dM vs v (fun e => hni (e ▸ hj))⟩
                  obtain ⟨pre', rest', vs', k1, k2, k3, k4, k5, k6⟩ := absorbA (f0 := f0) (T := T) (O := (fun x => x < w.heap.size ∨ fl = [])) (cb := fun i => cs.contains i) hdr hpl r (pre ++ [i]) (setV vs i v) w2 (by rw [List.append_assoc, List.singleton_append]; exact heag) (by rw [List.append_assoc, List.singleton_append, ← h1]; exact hplan)
                    (by rw [List.reverse_append, List.reverse_singleton, List.singleton_append, kZ, dA, iY hnr]; exact hpw)
                    (fun j hj hcj => by
                      rcases List.mem_append.1 hj with h | h
                      · exact (h4 j h hcj).mono h hmm hkw
                      · rw [List.mem_singleton] at h
                        subst h; rw [hcc] at hcj; cases hcj)
                  have hsame : ∀ j, j ∈ pre → j ∈ pre' ∧ vs' j = vs j := fun j hj => ⟨(k2 j (hmm j hj).1).1, ((k2 j (hmm j hj).1).2).trans (hmm j hj).2⟩
                  have hci := k2 i (by simp)
                  rw [dA] at hci
                  have hcall : ∀ j, j ∈ pre' → cs.contains j = true → j ∈ pre ∧ vs' j = vs j ∨ j = i := by
                    intro j hj hc
                    rcases k3 j hj with h | h
                    · rcases List.mem_append.1 h with h | h
                      · exact .inl ⟨h, (hsame j h).2⟩
                      · rw [List.mem_singleton] at h; exact .inr h
                    · rw [hc] at h; cases h
                  refine ih _ _ _ (by simpa using hs) (by omega) (hkput _) hun' hlp' hcl' (Nat.le_trans hsz hkw.size) ⟨pre', rest', vs', bs, by rw [← k1, h1]; simp, k4, k5, k6, fun j hj hc => ?_, fun j hj => ?_, fun q hq hlq => ?_, fun j hj hc x hx => ?_, fun q q' hq hq' hl1 hl2 => ?_⟩
                  · by_cases hij : i = j
                    · subst hij
                      rw [Array.getD_eq_getD_getElem?]; simp [hs, hlt]
                    · rw [getD_set_ne false hij]
                      rcases hcall j hj hc with h | h
                      · exact h5 j h.1 hc
                      · exact absurd h.symm hij
                  · by_cases hij : i = j
                    · subst hij; exact .inr ⟨hci.1, fun hid => by rw [hput _ hid, hci.2]⟩
                    · rw [getD_set_ne false hij] at hj
                      rcases h6 j hj with h | ⟨m1, m2⟩
                      · exact .inl h
                      · have hpj := hplan j (hpre j m1)
                        exact .inr ⟨(hsame j m1).1, fun hjd => by rw [hputo _ j hpj.1 hjd hij, (hsame j m1).2]; exact m2 hjd⟩
                  · rw [getD_set_ne false (hifl q hq)] at hlq
                    obtain ⟨m1, m2, m3, m4, m5⟩ := h7 q hq hlq
                    refine ⟨by rw [hputo _ q.1 (hfl1 q hq).1 (hfd q hq) (hifl q hq)]; exact m1, m2, Nat.lt_of_lt_of_le m3 hkw.size, m4.keep hkw (fun hm => by have := hT _ hm; omega), fun j hj hc x hx => ?_⟩
                    rcases hcall j hj hc with ⟨h, e⟩ | h
                    · rw [e] at hx; exact m5 j h hc x hx
                    · subst h
                      rw [hci.2] at hx
                      have := (hcv x hx).1
                      intro e
                      rcases this with (h3 | h3) | h3
                      · omega
                      · rw [h3] at hq; cases hq
                      · omega
                  · rcases hcall j hj hc with ⟨h, e⟩ | h
                    · rw [e] at hx; exact Nat.lt_of_lt_of_le (h8 j h hc x hx) hkw.size
                    · subst h
                      rw [hci.2] at hx
                      exact (hcv x hx).2
                  · rw [getD_set_ne false (hifl q hq)] at hl1
                    rw [getD_set_ne false (hifl q' hq')] at hl2
                    exact h9 q q' hq hq' hl1 hl2
                · rw [hcc] at g4; cases g4
              · exfalso
                simp only [eager, Bool.and_eq_true] at he1
                have h7 := he1.1.2
                rw [hcc, Bool.not_true, Bool.false_or] at h7
                have h8 := List.all_eq_true.1 h7 i hir
                obtain ⟨j, hj, hdj⟩ := List.any_eq_true.1 h8
                have hjp : j ∈ plan := by rw [h1]; exact List.mem_append_right _ hj
                rcases h6 j (hdepl j hdj) with h | h
                · exact hnf j hjp h
                · exact he2 j h.1 hj
        · subst hqi
          obtain ⟨d', ty, pos, aft, s, by_, hg, hTy⟩ := hfl q hqf
          rw [hg] at ho'
          simp only [Option.some.injEq] at ho'
          have hnp : q.1 ∉ pre := fun hm => (hfl1 q hqf).2 (hpre _ hm)
          refine step [] ⟨hk.size, hk.defers, fun t v h => by cases h⟩ (fun v' w2 => ∃ b, v' = .pointer (some ⟨b, 0, none⟩) ∧ b = w'.heap.size ∧ Bk w2 b q.2.1 q.2.2 ∧ Keep [] w' w2 ∧ w2.heap.size = w'.heap.size + 1) ?_ ?_
          · subst ho'
            intro a1 ha1 K Q hK
            refine ⟨fun _ => bG (n := n) (f := []) hTy a1 ha1 _ _ _ _ K Q hK, fun h => by simp [Region.wanted] at h⟩
          · rintro v w2 ⟨b, rfl, rfl, hb, hkb, hsb⟩
            have hqne : ∀ q', q' ∈ fl → q'.1 ≠ q.1 → q.1 ≠ q'.1 := fun q' _ h e => h e.symm
            refine ih _ _ _ (by simpa using hs) (by omega) (hkput _) hun' hlp' hcl' (by omega) ⟨pre, rest, vs, setB bs q.1 w'.heap.size, h1, h2, PA.grow hgrow _ _ _ _ hkb h3, fun j hj hc => (h4 j hj hc).mono hj (fun j hj => ⟨hj, rfl⟩) hkb.weak, fun j hj hc => ?_, fun j hj => ?_, fun q' hq' hlq => ?_, fun j hj hc x hx => by have := h8 j hj hc x hx; omega, fun q1 q2 hq1 hq2 hl1 hl2 hne => ?_⟩
            · rw [getD_set_ne false (fun e => hnp (by rw [e]; exact hj))]; exact h5 j hj hc
            · by_cases hij : q.1 = j
              · exact .inl ⟨q, hqf, hij⟩
              · rw [getD_set_ne false hij] at hj
                rcases h6 j hj with h | ⟨m1, m2⟩
                · exact .inl h
                · have hpj := hplan j (hpre j m1)
                  exact .inr ⟨m1, fun hjd => by rw [hputo _ j hpj.1 hjd hij]; exact m2 hjd⟩
            · by_cases hqq : q.1 = q'.1
              · have hqe : q' = q := nd_eq hnd hqf hq' hqq
                subst hqe
                refine ⟨by rw [hput _ (hfd q' hqf), dN], by rw [dN]; omega, by rw [dN]; omega, by rw [dN]; exact hb, fun j hj hc x hx => ?_⟩
                rw [dN]
                have := h8 j hj hc x hx
                omega
              · rw [getD_set_ne false hqq] at hlq
                obtain ⟨m1, m2, m3, m4, m5⟩ := h7 q' hq' hlq
                rw [e6 bs _ (Ne.symm hqq)]
                exact ⟨by rw [hputo _ q'.1 (hfl1 q' hq').1 (hfd q' hq') hqq]; exact m1, m2, by omega, m4.oC hkb, m5⟩
            · by_cases e1 : q.1 = q1.1
              · have e2 : q.1 ≠ q2.1 := fun e => hne (e1.symm.trans e)
                rw [getD_set_ne false e2] at hl2
                rw [← e1, dN, e6 bs _ (Ne.symm e2)]
                have := (h7 q2 hq2 hl2).2.2.1
                omega
              · rw [getD_set_ne false e1] at hl1
                rw [e6 bs _ (Ne.symm e1)]
                by_cases e2 : q.1 = q2.1
                · rw [← e2, dN]
                  have := (h7 q1 hq1 hl1).2.2.1
                  omega
                · rw [getD_set_ne false e2] at hl2
                  rw [e6 bs _ (Ne.symm e2)]
                  exact h9 q1 q2 hq1 hq2 hl1 hl2 hne
  obtain ⟨pre', rest', vs', k1, k2, k3, k4, k5, k6⟩ := absorbA (f0 := f0) (T := T) (O := (fun x => x < w.heap.size ∨ fl = [])) (cb := fun i => cs.contains i) hdr hpl plan [] (fun _ => undef) _ heag hplan (h _ (bt w)) (fun i hi => by cases hi)
  have hemp : ∀ i, ¬ (Array.replicate l.toArray.size false).getD i false = true := by
    intro i hi
    rw [Array.getD_eq_getD_getElem?] at hi
    rcases Nat.lt_or_ge i l.toArray.size with h' | h'
    · rw [Array.getElem?_eq_getElem (by simpa using h')] at hi; simp at hi
    · rw [Array.getElem?_eq_none (by simpa using h')] at hi; simp at hi
  refine key _ _ a _ (by simp) ?_ ha0 ?_ (fun i hi => absurd hi (hemp i)) (fun i _ hi => absurd hi (hemp i)) (Nat.le_refl _) ⟨pre', rest', vs', fun _ => 0, k1, k4, k5, k6, fun i hi hc => ?_, fun i hi => absurd hi (hemp i), fun q _ hq => absurd hq (hemp _), fun j hj hc => ?_, fun q q' _ _ hq => absurd hq (hemp _)⟩
  · unfold left
    have := List.countP_le_length (p := fun i => !(Array.replicate l.toArray.size false).getD i true) (l := List.range l.length)
    simpa using this
  · intro i _ hi
    rw [Array.getD_eq_getD_getElem?, Array.getElem?_eq_getElem (by simpa using hi)]; simp
  · rcases k3 i hi with h | h
    · cases h
    · rw [hc] at h; cases h
  · rcases k3 j hj with h | h
    · cases h
    · rw [hc] at h; cases h
end
end Go.Eng
namespace Go.Eng
open Go Go.IntWalk
section
variable {P : Program} {n : NN} {f : Fr} {w : World} {ty : TypeId} {fin : Exit → Act → World → Prop} {k : List KI} {l : List Oper} {p s0 : Nat} {O : Nat → Prop} {T cs r : List Nat} {Fin : Fr → World → Prop} {i : Nat}
theorem dW {fl : List (Nat × TypeId × List Value)} (h : ∀ w2, Keep [] w w2 → FinA P fin n k l p s0 cs f fl [] f w2) : PA P n l p T O (fun i => cs.contains i) (fun f' w' => ∀ w2, Keep [] w' w2 → FinA P fin n k l p s0 cs f' fl [] f' w2) [] f w := by unfold PA; exact h
theorem ce {fc : Fr} {seen : List Nat} (h : OW P fin n k l.toArray (l.drop p) f w) : FinA P fin n k l p s0 cs fc [] seen f w := h
theorem gI {d : Nat} {op : Op} {pos : String} {aft : Array Edge} {g : Option (Nat × Bool)} {v : Value} {f : Fr} (ho : l[i]? = some ⟨some d, op, ty, pos, aft, g⟩) : frPut l i v f = (d, v) :: f := by
 unfold frPut hasDst; rw [ho, iX ho]; rfl
theorem pa_g (f1 : Fr) {op : Op} {d : Nat} {pos : String} {aft : Array Edge} {v : Value} (ho : l[i]? = some ⟨some d, op, ty, pos, aft, none⟩) (hc : cs.contains i = false) (hs : Fr.sub f1 f) (hk : slotsOk l p i f1 = true)
   (hr : ∀ w', Keep T w w' → Gives P n f1 w' op ty v w') (h : PA P n l p T O (fun i => cs.contains i) Fin r ((d, v) :: f) w) : PA P n l p T O (fun i => cs.contains i) Fin (i :: r) f w := by
 unfold PA
 exact ⟨_, f1, ho, hs, hk, .inr ⟨hc, v, fun w' hw => ld (hr w' hw), by rw [gI ho]; exact h⟩⟩
theorem fo (f1 : Fr) {op : Op} {d : Nat} {pos : String} {aft : Array Edge} (ho : l[i]? = some ⟨some d, op, ty, pos, aft, none⟩) (hc : cs.contains i = true) (hs : Fr.sub f1 f) (hk : slotsOk l p i f1 = true)
   (hr : ∀ w1, Keep [] w w1 → Does P n f1 w1 op ty (fun v w' => Keep T w1 w' ∧ (∀ x, x ∈ cblk v → (O x ∨ w1.heap.size ≤ x) ∧ x < w'.heap.size) ∧ PA P n l p T O (fun i => cs.contains i) Fin r ((d, v) :: f) w')) : PA P n l p T O (fun i => cs.contains i) Fin (i :: r) f w := by
 unfold PA
 refine ⟨_, f1, ho, hs, hk, .inl ⟨hc, fun w1 k1 a ha K Q hK => ⟨fun _ => ?_, fun h => by simp [Region.wanted] at h⟩⟩⟩
 exact hr w1 k1 a ha _ _ _ _ _ _ (fun v w' hv => hK _ _ ⟨hv.1, hv.2.1, by rw [gI ho]; exact hv.2.2⟩)
end
end Go.Eng
namespace Go.Eng
open Go Go.IntWalk
section
variable {P : Program} {n : NN} {f : Fr} {w : World} {ty : TypeId} {fin : Exit → Act → World → Prop} {k : List KI} {l : List Oper} {p s0 : Nat} {O : Nat → Prop} {T cs r : List Nat} {Fin : Fr → World → Prop} {i : Nat}
theorem ba (t : Nat) {op : Op} {d : Nat} {pos : String} {aft : Array Edge} {v v0 : Value} (ho : l[i]? = some ⟨some d, op, ty, pos, aft, none⟩) (hc : cs.contains i = false) (hs : f.get t = some v0) (hk : slotsOk l p i [(t, v0)] = true)
   (hr : ∀ w', Keep T w w' → Gives P n [(t, v0)] w' op ty v w') (h : PA P n l p T O (fun i => cs.contains i) Fin r ((d, v) :: f) w) : PA P n l p T O (fun i => cs.contains i) Fin (i :: r) f w := pa_g [(t, v0)] ho hc ⟨hs, trivial⟩ hk hr h
theorem co (t : Nat) {op : Op} {d : Nat} {pos : String} {aft : Array Edge} {v v0 : Value} (ho : l[i]? = some ⟨some d, op, ty, pos, aft, none⟩) (hc : cs.contains i = false) (hs : f.get t = some v0) (hk : slotsOk l p i [(t, v0)] = true)
   (hr : ∀ w', Keep T w w' → Gives P n [(t, v0)] w' op ty v w') (h : PW P n l p T (fun i => cs.contains i) Fin r ((d, v) :: f) w) : PW P n l p T (fun i => cs.contains i) Fin (i :: r) f w := nL [(t, v0)] ho hc ⟨hs, trivial⟩ hk hr h
theorem eC (t : Nat) {x : Operand} {d : Nat} {pos : String} {aft : Array Edge} {v v0 : Value} (ho : l[i]? = some ⟨some d, .move x, ty, pos, aft, none⟩) (hc : cs.contains i = false) (hs : f.get t = some v0) (hk : slotsOk l p i [(t, v0)] = true)
   (hx : Fr.ev [(t, v0)] x = some v) (h : PA P n l p T O (fun i => cs.contains i) Fin r ((d, v) :: f) w) : PA P n l p T O (fun i => cs.contains i) Fin (i :: r) f w := ba t ho hc hs hk (fun _ _ => bC hx) h
theorem iI (t t2 : Nat) {op : Op} {d : Nat} {pos : String} {aft : Array Edge} {v v0 v1 : Value} (ho : l[i]? = some ⟨some d, op, ty, pos, aft, none⟩) (hc : cs.contains i = false) (hs : f.get t = some v0) (hs2 : f.get t2 = some v1) (hk : slotsOk l p i [(t, v0), (t2, v1)] = true)
   (hr : ∀ w', Keep T w w' → Gives P n [(t, v0), (t2, v1)] w' op ty v w') (h : PA P n l p T O (fun i => cs.contains i) Fin r ((d, v) :: f) w) : PA P n l p T O (fun i => cs.contains i) Fin (i :: r) f w := pa_g [(t, v0), (t2, v1)] ho hc ⟨hs, hs2, trivial⟩ hk hr h
theorem pw_m (t : Nat) {x : Operand} {d : Nat} {pos : String} {aft : Array Edge} {v v0 : Value} (ho : l[i]? = some ⟨some d, .move x, ty, pos, aft, none⟩) (hc : cs.contains i = false) (hs : f.get t = some v0) (hk : slotsOk l p i [(t, v0)] = true)
   (hx : Fr.ev [(t, v0)] x = some v) (h : PW P n l p T (fun i => cs.contains i) Fin r ((d, v) :: f) w) : PW P n l p T (fun i => cs.contains i) Fin (i :: r) f w := co t ho hc hs hk (fun _ _ => bC hx) h
theorem pw_2 (t t2 : Nat) {op : Op} {d : Nat} {pos : String} {aft : Array Edge} {v v0 v1 : Value} (ho : l[i]? = some ⟨some d, op, ty, pos, aft, none⟩) (hc : cs.contains i = false) (hs : f.get t = some v0) (hs2 : f.get t2 = some v1) (hk : slotsOk l p i [(t, v0), (t2, v1)] = true)
   (hr : ∀ w', Keep T w w' → Gives P n [(t, v0), (t2, v1)] w' op ty v w') (h : PW P n l p T (fun i => cs.contains i) Fin r ((d, v) :: f) w) : PW P n l p T (fun i => cs.contains i) Fin (i :: r) f w := nL [(t, v0), (t2, v1)] ho hc ⟨hs, hs2, trivial⟩ hk hr h
end
end Go.Eng
namespace Go.Eng
open Go Go.IntWalk
section
variable {P : Program} {n : NN} {f : Fr} {w : World} {ty : TypeId} {fin : Exit → Act → World → Prop} {k : List KI}
section
variable {l : List Oper} {p s0 i : Nat} {O : Nat → Prop} {T cs r : List Nat} {Fin : Fr → World → Prop}
end
end
end Go.Eng
namespace Go.Eng
open Go Go.IntWalk
section
variable {P : Program} {fin : Exit → Act → World → Prop} {n : NN} {k : List KI} {f : Fr} {w : World} {ty : TypeId}
theorem grdT {ops : Array Oper} {j d : Nat} {oj : Oper} {b want : Bool} (hj : ops[j]? = some oj) (hd : oj.dst = some d) (hf : f.get d = some (.bool b)) (hb : b = want) : Grd n ops f j want true := ad hj hd hf (by subst hb; cases b <;> rfl)
theorem f7 {ops : Array Oper} {l : List Oper} {op : Op} {d : Nat} {pos : String} {aft : Array Edge} {j : Nat} {want : Bool} {R : Value → World → Prop} (hG : Grd n ops f j want true) (hr : Does P n f w op ty R) (hd : Nat.blt d n = true)
   (h : ∀ v w', R v w' → OW P fin n k ops l ((d, v) :: f) w') : OW P fin n k ops (⟨some d, op, ty, pos, aft, some (j, want)⟩ :: l) f w := by
 intro a ha
 refine wpList_step fun K hK => ?_
 have hwt : Region.wanted ⟨some d, op, ty, pos, aft, some (j, want)⟩ (yielded ops a.tmps) = true := hG a ha
 rw [hwt, if_pos rfl]
 exact hr a ha _ _ _ _ _ _ (fun v w' hv => hK _ _ (h v w' hv _ (ha.put (bp hd) v)))
section
variable {l : List Oper} {p s0 i : Nat} {O : Nat → Prop} {T cs r : List Nat} {Fin : Fr → World → Prop}
theorem cV (f1 : Fr) {op : Op} {d : Nat} {pos : String} {aft : Array Edge} {j : Nat} {want : Bool} {v : Value} (ho : l[i]? = some ⟨some d, op, ty, pos, aft, some (j, want)⟩) (hc : cs.contains i = false) (hs : Fr.sub f1 f) (hk : slotsOk l p i f1 = true)
   (hG : Grd n l.toArray f1 j want true) (hr : ∀ w', Keep T w w' → Gives P n f1 w' op ty v w') (h : PA P n l p T O (fun i => cs.contains i) Fin r ((d, v) :: f) w) : PA P n l p T O (fun i => cs.contains i) Fin (i :: r) f w := by
 unfold PA
 refine ⟨_, f1, ho, hs, hk, .inr ⟨hc, v, fun w' hw a ha K Q hK => ?_, by rw [gI ho]; exact h⟩⟩
 have hwt : Region.wanted ⟨some d, op, ty, pos, aft, some (j, want)⟩ (yielded l.toArray a.tmps) = true := hG a ha
 rw [hwt]
 refine ⟨fun _ => ?_, fun hcf => by cases hcf⟩
 unfold Oper.wp
 rw [hr w' hw a ha]
 exact hK _ _ ⟨rfl, rfl⟩
theorem pa_dt (f1 : Fr) {op : Op} {d : Nat} {pos : String} {aft : Array Edge} {j : Nat} {want : Bool} (ho : l[i]? = some ⟨some d, op, ty, pos, aft, some (j, want)⟩) (hc : cs.contains i = true) (hs : Fr.sub f1 f) (hk : slotsOk l p i f1 = true)
   (hG : Grd n l.toArray f1 j want true)
   (hr : ∀ w1, Keep [] w w1 → Does P n f1 w1 op ty (fun v w' => Keep T w1 w' ∧ (∀ x, x ∈ cblk v → (O x ∨ w1.heap.size ≤ x) ∧ x < w'.heap.size) ∧ PA P n l p T O (fun i => cs.contains i) Fin r ((d, v) :: f) w')) : PA P n l p T O (fun i => cs.contains i) Fin (i :: r) f w := by
 unfold PA
 refine ⟨_, f1, ho, hs, hk, .inl ⟨hc, fun w1 k1 a ha K Q hK => ?_⟩⟩
 have hwt : Region.wanted ⟨some d, op, ty, pos, aft, some (j, want)⟩ (yielded l.toArray a.tmps) = true := hG a ha
 rw [hwt]
 refine ⟨fun _ => ?_, fun hcf => by cases hcf⟩
 exact hr w1 k1 a ha _ _ _ _ _ _ (fun v w' hv => hK _ _ ⟨hv.1, hv.2.1, by rw [gI ho]; exact hv.2.2⟩)
end
theorem cK {x y z : Operand} {b : Bool} {v : Value} (hx : f.ev x = some (.bool b)) (hb : b = true) (hy : f.ev y = some v) : Gives P n f w (.pick x y z) ty v w := by
 subst hb
 intro a ha dst pos aft g
 simp [execOp, ha.ev hx, ha.ev hy, asBool]
theorem dR {x y z : Operand} {b : Bool} {v : Value} (hx : f.ev x = some (.bool b)) (hb : b = false) (hz : f.ev z = some v) : Gives P n f w (.pick x y z) ty v w := by
 subst hb
 intro a ha dst pos aft g
 simp [execOp, ha.ev hx, ha.ev hz, asBool]
theorem Rd.cblk {w : World} {s m : Nat} {v : Value} {cs : List Value} (h : Rd w s v m cs) : Eng.cblk v = vblk v := by
 obtain ⟨A, c, rfl, _⟩ := h
 cases A <;> rfl
theorem az {x : Operand} {T : TypeId} {fs : Array Field} {i : Nat} {fd : Field} {b o : Nat} (o' : Nat) {zs : List Value} {s by_ : Nat} (hT : P.underlying T = some (.struct fs)) (hf : fs[i]? = some fd) (hs : Ty P fd.type zs s by_) (h0 : s ≠ 0)
   (hx : f.ev x = some (.pointer (some ⟨b, o, none⟩))) (ho : o + fd.offset = o') : Gives P n f w (.fieldAddr T x i) ty (.pointer (some ⟨b, o', none⟩)) w := by subst ho; exact ak hT hf hs h0 hx
end
end Go.Eng
namespace Go.Eng
open Go Go.IntWalk
section
variable {P : Program} {n : NN}
end
section
variable {P : Program} {n : NN} {fin : Exit → Act → World → Prop} {k : List KI} {f : Fr} {w : World}
def FinG (P : Program) (n : NN) (l : List Oper) (p s0 : Nat) (cs : List Nat) (fc : Fr) (G : Fr → World → Prop) : List (Nat × TypeId × List Value) → List Nat → Fr → World → Prop
 | [], _, f, w => G f w
 | q :: r, seen, f, w => ∀ b, s0 ≤ b → b < w.heap.size → Bk w b q.2.1 q.2.2 → (∀ x, x ∈ seen → x ≠ b) → (∀ j, j ∈ cs → hasDst l j = true → ∀ v, fc.get (dstOf l j) = some v → ∀ x, x ∈ cblk v → x ≠ b) →
   FinG P n l p s0 cs fc G r (b :: seen) ((dstOf l q.1, .pointer (some ⟨b, 0, none⟩)) :: f) w
theorem FinG.use {l : List Oper} {p s0 : Nat} {cs : List Nat} {fc : Fr} {G : Fr → World → Prop} {bs : Nat → Nat} : ∀ {fl : List (Nat × TypeId × List Value)} {seen : List Nat} {f : Fr} {w : World}, FinG P n l p s0 cs fc G fl seen f w →
   (∀ q, q ∈ fl → s0 ≤ bs q.1 ∧ bs q.1 < w.heap.size ∧ Bk w (bs q.1) q.2.1 q.2.2 ∧ (∀ j, j ∈ cs → hasDst l j = true → ∀ v, fc.get (dstOf l j) = some v → ∀ x, x ∈ cblk v → x ≠ bs q.1) ∧ (∀ x, x ∈ seen → x ≠ bs q.1)) →
   (fl.map (·.1)).Nodup → (∀ q q', q ∈ fl → q' ∈ fl → q.1 ≠ q'.1 → bs q.1 ≠ bs q'.1) → G (flFr l bs fl f) w
 | [], seen, f, w, h, _, _, _ => h
 | q :: r, seen, f, w, h, hq, hnd, hd => by
   obtain ⟨h1, h2, h3, h4, h5⟩ := hq q (by simp)
   have hnd' := List.nodup_cons.1 hnd
   refine FinG.use (fl := r) (f := (dstOf l q.1, .pointer (some ⟨bs q.1, 0, none⟩)) :: f) (h (bs q.1) h1 h2 h3 h5 h4) (fun q' hq' => ?_) hnd'.2 (fun a b ha hb => hd a b (by simp [ha]) (by simp [hb]))
   obtain ⟨g1, g2, g3, g4, g5⟩ := hq q' (by simp [hq'])
   refine ⟨g1, g2, g3, g4, fun x hx => ?_⟩
   rcases List.mem_cons.1 hx with rfl | hx
   · exact hd q q' (by simp) (by simp [hq']) (fun e => hnd'.1 (List.mem_map.2 ⟨q', hq', e.symm⟩))
   · exact g5 x hx
end
end Go.Eng
namespace Go.Eng
open Go Go.IntWalk
section
variable {α : Type}
theorem eU {s : Nat} : ∀ {css : List (List Value)} {i : Nat} {cs : List Value}, (∀ c ∈ css, c.length = s) → css[i]? = some cs → (css.flatten.drop (i * s)).take s = cs
 | [], i, cs, _, h => by simp at h
 | c :: r, 0, cs, hl, h => by
   simp at h; subst h
   have := hl c (by simp)
   simp only [Nat.zero_mul, List.drop_zero, List.flatten_cons]
   rw [List.take_append_of_le_length (by omega), ← this, List.take_length]
 | c :: r, i + 1, cs, hl, h => by
   simp at h
   have h1 := hl c (by simp)
   have ih := eU (s := s) (fun c hc => hl c (by simp [hc])) h
   rw [List.flatten_cons, Nat.add_mul, Nat.one_mul, Nat.add_comm, ← List.drop_drop, List.drop_left' h1]
   exact ih
theorem gJ {s : Nat} : ∀ {css : List (List Value)}, (∀ c ∈ css, c.length = s) → css.flatten.length = css.length * s
 | [], _ => by simp
 | c :: r, h => by
   rw [List.flatten_cons, List.length_append, h c (by simp), gJ (fun c hc => h c (by simp [hc])), List.length_cons, Nat.add_mul, Nat.one_mul, Nat.add_comm]
def Els (s : Nat) (E : List Value → α → Prop) (css : List (List Value)) (xs : List α) : Prop := css.length = xs.length ∧ (∀ c ∈ css, c.length = s) ∧ ∀ (i : Nat) cs x, css[i]? = some cs → xs[i]? = some x → E cs x
theorem Els.mono {s : Nat} {E E' : List Value → α → Prop} {css : List (List Value)} {xs : List α} (h : Els s E css xs) (hm : ∀ cs x, E cs x → E' cs x) : Els s E' css xs := ⟨h.1, h.2.1, fun i cs x h1 h2 => hm _ _ (h.2.2 i cs x h1 h2)⟩
theorem gx (s : Nat) (E : List Value → α → Prop) : Els s E [] [] := ⟨rfl, (fun c hc => by cases hc), (fun i cs x h _ => by simp at h)⟩
theorem Els.snoc {s : Nat} {E : List Value → α → Prop} {css : List (List Value)} {xs : List α} (h : Els s E css xs) {cs : List Value} {x : α} (hl : cs.length = s) (he : E cs x) : Els s E (css ++ [cs]) (xs ++ [x]) := by
 obtain ⟨h1, h2, h3⟩ := h
 refine ⟨by simp [h1], fun c hc => ?_, fun i c y hc hy => ?_⟩
 · rcases List.mem_append.1 hc with h | h
   · exact h2 c h
   · rw [List.mem_singleton] at h; subst h; exact hl
 · rcases Nat.lt_trichotomy i css.length with hi | hi | hi
   · rw [List.getElem?_append_left hi] at hc
     rw [List.getElem?_append_left (by omega)] at hy
     exact h3 i c y hc hy
   · rw [List.getElem?_append_right (by omega), show i - css.length = 0 from by omega] at hc
     rw [List.getElem?_append_right (by omega), show i - xs.length = 0 from by omega] at hy
     simp at hc hy; subst hc hy; exact he
   · rw [List.getElem?_eq_none (by simp; omega)] at hc; cases hc
def RdE (w : World) (s : Nat) (E : List Value → α → Prop) (v : Value) (xs : List α) : Prop := ∃ css, Els s E css xs ∧ Rd w s v xs.length css.flatten
def OwnE (w : World) (lo : Nat) (T : TypeId) (s : Nat) (E : List Value → α → Prop) (v : Value) (xs : List α) : Prop := ∃ css, Els s E css xs ∧ Own w lo T s v xs.length css.flatten
theorem OwnE.rd {w : World} {lo s : Nat} {T : TypeId} {E : List Value → α → Prop} {v : Value} {xs : List α} (h : OwnE w lo T s E v xs) : RdE w s E v xs := by obtain ⟨css, h1, h2⟩ := h; exact ⟨css, h1, h2.rd⟩
theorem OwnE.blk {w : World} {lo s : Nat} {T : TypeId} {E : List Value → α → Prop} {v : Value} {xs : List α} (h : OwnE w lo T s E v xs) : ∀ x, x ∈ vblk v → lo ≤ x ∧ x < w.heap.size := by obtain ⟨css, h1, h2⟩ := h; exact h2.blk
theorem OwnE.mono {w : World} {lo s : Nat} {T : TypeId} {E E' : List Value → α → Prop} {v : Value} {xs : List α} (h : OwnE w lo T s E v xs) (hm : ∀ cs x, E cs x → E' cs x) : OwnE w lo T s E' v xs := by obtain ⟨css, h1, h2⟩ := h; exact ⟨css, h1.mono hm, h2⟩
theorem RdE.mono {w : World} {s : Nat} {E E' : List Value → α → Prop} {v : Value} {xs : List α} (h : RdE w s E v xs) (hm : ∀ cs x, E cs x → E' cs x) : RdE w s E' v xs := by obtain ⟨css, h1, h2⟩ := h; exact ⟨css, h1.mono hm, h2⟩
theorem OwnE.lo {w : World} {lo lo' s : Nat} {T : TypeId} {E : List Value → α → Prop} {v : Value} {xs : List α} (h : OwnE w lo T s E v xs) (hl : lo' ≤ lo) : OwnE w lo' T s E v xs := by obtain ⟨css, h1, h2⟩ := h; exact ⟨css, h1, h2.lo hl⟩
theorem OwnE.keep {S : List Nat} {w w' : World} {lo s : Nat} {T : TypeId} {E : List Value → α → Prop} {v : Value} {xs : List α} (h : OwnE w lo T s E v xs) (k : Keep S w w') (hn : ∀ x, x ∈ vblk v → x ∉ S) : OwnE w' lo T s E v xs := by obtain ⟨css, h1, h2⟩ := h; exact ⟨css, h1, h2.keep k hn⟩
theorem RdE.keep {S : List Nat} {w w' : World} {s : Nat} {E : List Value → α → Prop} {v : Value} {xs : List α} (h : RdE w s E v xs) (k : Keep S w w') (hn : ∀ x, x ∈ vblk v → x ∉ S) : RdE w' s E v xs := by obtain ⟨css, h1, h2⟩ := h; exact ⟨css, h1, h2.keep k hn⟩
theorem kC (w : World) (lo : Nat) (T : TypeId) (s : Nat) (E : List Value → α → Prop) : OwnE w lo T s E (.slice none 0 0) [] := ⟨[], gx s E, a8 _ _ _ _⟩
theorem RdE.get {w : World} {s : Nat} {E : List Value → α → Prop} {v : Value} {xs : List α} (h : RdE w s E v xs) {i : Nat} (hi : i < xs.length) : ∃ cs0 cs x, Rd w s v xs.length cs0 ∧ xs[i]? = some x ∧ (cs0.drop (i * s)).take s = cs ∧ cs.length = s ∧ E cs x := by
 obtain ⟨css, ⟨h1, h2, h3⟩, h4⟩ := h
 have hc : css[i]? = some (css[i]'(by omega)) := List.getElem?_eq_getElem (by omega)
 exact ⟨_, _, xs[i], h4, List.getElem?_eq_getElem hi, eU h2 hc, h2 _ (List.getElem_mem _), h3 i _ _ hc (List.getElem?_eq_getElem hi)⟩
theorem RdE.len {w : World} {s : Nat} {E : List Value → α → Prop} {v : Value} {xs : List α} (h : RdE w s E v xs) : ∃ cs0, Rd w s v xs.length cs0 := by obtain ⟨css, _, h⟩ := h; exact ⟨_, h⟩
end
end Go.Eng
namespace Go.Byt
theorem ly (n : Int) (k : Nat) : be n (k + 1) = be (n / 256) k ++ [byteAt n 0] := by
 unfold be
 rw [List.range_succ, List.map_append]
 congr 1
 · apply List.map_congr_left
   intro j hj
   have hj : j < k := List.mem_range.1 hj
   unfold byteAt
   have e : (2 : Int) ^ (8 * (k + 1 - 1 - j)) = 256 * 2 ^ (8 * (k - 1 - j)) := by
     have : 8 * (k + 1 - 1 - j) = 8 + 8 * (k - 1 - j) := by omega
     rw [this, Int.pow_add]; rfl
   rw [e, ← Int.ediv_ediv_of_nonneg (by decide)]
 · simp
theorem lL (k : Nat) : ∀ (n : Int), 0 ≤ n → n < 256 ^ k → num (be n k) = n := by
 induction k with
 | zero => intro n h0 h1; simp at h1; have : n = 0 := by omega
           subst this; rfl
 | succ k ih =>
   intro n h0 h1
   rw [Int.pow_succ] at h1
   rw [ly, eO, ih (n / 256) (by omega) (by omega), bZ]
   simp; omega
theorem nx {a b : Int} {k : Nat} (h : be a k = be b k) (a0 : 0 ≤ a) (a1 : a < 256 ^ k) (b0 : 0 ≤ b) (b1 : b < 256 ^ k) : a = b := by
 rw [← lL k a a0 a1, h, lL k b b0 b1]
theorem u8_ext {a b : UInt8} (h : (a.toNat : Int) = b.toNat) : a = b := UInt8.toNat_inj.1 (by omega)
theorem ia (xs : List UInt8) : be (num xs) xs.length = xs := by
 have key : ∀ (n : Nat) (xs : List UInt8), xs.length = n → be (num xs) n = xs := by
   intro n
   induction n with
   | zero => intro xs h; have : xs = [] := List.eq_nil_of_length_eq_zero h
             subst this; rfl
   | succ n ih =>
     intro xs h
     have hne : xs ≠ [] := fun e => by subst e; simp at h
     obtain ⟨ys, y, rfl⟩ : ∃ ys y, xs = ys ++ [y] := ⟨xs.dropLast, xs.getLast hne, (List.dropLast_concat_getLast hne).symm⟩
     have hl : ys.length = n := by simpa using h
     have h2 := y.toNat_lt
     rw [ly, eO, show (num ys * 256 + (y.toNat : Int)) / 256 = num ys by omega, ih ys hl]
     congr 2
     refine u8_ext ?_
     rw [bZ]; simp; omega
 exact key _ xs rfl
theorem rLen_0 {x : UInt8} {r : List UInt8} (h : x.toNat < 64) : rLen (x :: r) 0 = ((x.toNat : Int), r, 0) := by
 have htop : top (x :: r) = 0 := by show x.toNat / 64 = 0; omega
 unfold rLen
 rw [htop, if_neg (by decide), if_neg (by decide), if_neg (by simp), if_neg (fun h => absurd h.1 (by decide))]
 have e : num ((x :: r).take (2 ^ 0)) = x.toNat := by show num [x] = _; simp [num]
 have e2 : (2 : Int) ^ (8 * 2 ^ 0 - 2) = 64 := rfl
 rw [e, e2, Int.emod_eq_of_lt (by omega) (by omega)]; rfl
theorem rLen_1 {x y : UInt8} {r : List UInt8} (h : x.toNat / 64 = 1) (hm : ((x.toNat : Int) * 256 + y.toNat) % 16384 / 64 ≠ 0) : rLen (x :: y :: r) 0 = (((x.toNat : Int) * 256 + y.toNat) % 16384, r, 0) := by
 have htop : top (x :: y :: r) = 1 := h
 unfold rLen
 have e : num ((x :: y :: r).take (2 ^ 1)) = (x.toNat : Int) * 256 + y.toNat := by show num [x, y] = _; simp [num]
 have e2 : (2 : Int) ^ (8 * 2 ^ 1 - 2) = 16384 := rfl
 have e3 : (2 : Int) ^ (4 * 2 ^ 1 - 2) = 64 := rfl
 rw [htop, if_neg (by decide), if_neg (by decide), if_neg (by simp), e, e2, e3, if_neg (fun h => hm h.2)]; rfl
theorem rLen_2 {x y z u : UInt8} {r : List UInt8} (h : x.toNat / 64 = 2) (hm : ((((x.toNat : Int) * 256 + y.toNat) * 256 + z.toNat) * 256 + u.toNat) % 1073741824 / 16384 ≠ 0) : rLen (x :: y :: z :: u :: r) 0 = (((((x.toNat : Int) * 256 + y.toNat) * 256 + z.toNat) * 256 + u.toNat) % 1073741824, r, 0) := by
 have htop : top (x :: y :: z :: u :: r) = 2 := h
 unfold rLen
 have e : num ((x :: y :: z :: u :: r).take (2 ^ 2)) = (((x.toNat : Int) * 256 + y.toNat) * 256 + z.toNat) * 256 + u.toNat := by show num [x, y, z, u] = _; simp [num]
 have e2 : (2 : Int) ^ (8 * 2 ^ 2 - 2) = 1073741824 := rfl
 have e3 : (2 : Int) ^ (4 * 2 ^ 2 - 2) = 16384 := rfl
 rw [htop, if_neg (by decide), if_neg (by decide), if_neg (by simp), e, e2, e3, if_neg (fun h => hm h.2)]; rfl
theorem be_1 (n : Int) : be n 1 = [byteAt n 0] := by simp [be]
theorem be_2 (n : Int) : be n 2 = [byteAt n 1, byteAt n 0] := by simp [be, List.range_succ]
theorem be_4 (n : Int) : be n 4 = [byteAt n 3, byteAt n 2, byteAt n 1, byteAt n 0] := by simp [be, List.range_succ]
theorem mZ {n : Nat} (h : n < 1073741824) (r : List UInt8) : rLen (vlen n ++ r) 0 = ((n : Int), r, 0) := by
 unfold vlen
 by_cases h1 : n < 64
 · rw [if_pos h1, be_1]
   have hb := bZ n 0
   simp at hb
   have := rLen_0 (x := byteAt n 0) (r := r) (by omega)
   show rLen (byteAt n 0 :: r) 0 = _
   rw [this]; congr 1; omega
 · by_cases h2 : n < 16384
   · rw [if_neg h1, if_pos h2, be_2]
     have hb := bZ (n + 16384 : Nat) 0
     have hc := bZ (n + 16384 : Nat) 1
     rw [show (2 : Int) ^ (8 * 0) = 1 from rfl] at hb
     rw [show (2 : Int) ^ (8 * 1) = 256 from rfl] at hc
     have := rLen_1 (x := byteAt (n + 16384 : Nat) 1) (y := byteAt (n + 16384 : Nat) 0) (r := r) (by omega) (by omega)
     show rLen (byteAt (n + 16384 : Nat) 1 :: byteAt (n + 16384 : Nat) 0 :: r) 0 = _
     rw [this]; congr 1; omega
   · rw [if_neg h1, if_neg h2, be_4]
     have hb := bZ (n + 2147483648 : Nat) 0
     have hc := bZ (n + 2147483648 : Nat) 1
     have hd := bZ (n + 2147483648 : Nat) 2
     have he := bZ (n + 2147483648 : Nat) 3
     rw [show (2 : Int) ^ (8 * 0) = 1 from rfl] at hb
     rw [show (2 : Int) ^ (8 * 1) = 256 from rfl] at hc
     rw [show (2 : Int) ^ (8 * 2) = 65536 from rfl] at hd
     rw [show (2 : Int) ^ (8 * 3) = 16777216 from rfl] at he
     have := rLen_2 (x := byteAt (n + 2147483648 : Nat) 3) (y := byteAt (n + 2147483648 : Nat) 2) (z := byteAt (n + 2147483648 : Nat) 1) (u := byteAt (n + 2147483648 : Nat) 0) (r := r) (by omega) (by omega)
     show rLen (byteAt (n + 2147483648 : Nat) 3 :: byteAt (n + 2147483648 : Nat) 2 :: byteAt (n + 2147483648 : Nat) 1 :: byteAt (n + 2147483648 : Nat) 0 :: r) 0 = _
     rw [this]; congr 1; omega
theorem cB {xs : List UInt8} (h : xs.length ≤ 65536) (r : List UInt8) : rVec (vec xs ++ r) 0 = (xs, r, 0) := by
 unfold rVec vec
 rw [if_neg (by decide), List.append_assoc, mZ (by omega)]
 dsimp only
 have e : rTake (xs ++ r) 0 (xs.length : Int) = (xs, r, 0) := by
   unfold rTake
   rw [if_neg (by decide), if_neg (by omega), if_neg (by rw [List.length_append]; omega), Int.toNat_natCast, List.take_left' rfl, List.drop_left' rfl]
 rw [if_neg (by decide), if_neg (by omega), e]; rfl
theorem gp {n : Int} {bs : List UInt8} (h : num bs = n) : be n bs.length = bs := by subst h; exact ia bs
theorem nK {rest r : List UInt8} {n : Int} (h : rLen rest 0 = (n, r, 0)) : 0 ≤ n ∧ n < 1073741824 ∧ rest = vlen n.toNat ++ r := by
 unfold rLen at h
 rw [if_neg (by decide)] at h
 have htop : top rest < 4 := by
   unfold top
   have := (rest.getD 0 0).toNat_lt; omega
 have ht : top rest = 0 ∨ top rest = 1 ∨ top rest = 2 ∨ top rest = 3 := by omega
 rcases ht with ht | ht | ht | ht <;> rw [ht] at h
 · rw [if_neg (by decide)] at h
   by_cases hl : rest.length < 2 ^ 0
   · rw [if_pos hl] at h; simp at h
   rw [if_neg hl, if_neg (fun h => absurd h.1 (by decide))] at h
   obtain ⟨x, t, rfl⟩ : ∃ x t, rest = x :: t := by
     match rest, hl with
     | [], hl => simp at hl
     | x :: t, _ => exact ⟨x, t, rfl⟩
   have e : num ((x :: t).take (2 ^ 0)) = x.toNat := by show num [x] = _; simp [num]
   have e2 : (2 : Int) ^ (8 * 2 ^ 0 - 2) = 64 := rfl
   have hx : x.toNat / 64 = 0 := ht
   rw [e, e2] at h
   simp only [Prod.mk.injEq] at h
   obtain ⟨h1, h2, _⟩ := h
   have h2 : t = r := h2
   subst h2
   refine ⟨by omega, by omega, ?_⟩
   unfold vlen
   rw [if_pos (by omega), show ((n.toNat : Nat) : Int) = num [x] by simp [num]; omega]
   have := ia [x]
   rw [show ([x] : List UInt8).length = 1 from rfl] at this
   rw [this]; rfl
 · rw [if_neg (by decide)] at h
   by_cases hl : rest.length < 2 ^ 1
   · rw [if_pos hl] at h; simp at h
   rw [if_neg hl] at h
   obtain ⟨x, y, t, rfl⟩ : ∃ x y t, rest = x :: y :: t := by
     match rest, hl with
     | [], hl => simp at hl
     | [x], hl => simp at hl
     | x :: y :: t, _ => exact ⟨x, y, t, rfl⟩
   have e : num ((x :: y :: t).take (2 ^ 1)) = (x.toNat : Int) * 256 + y.toNat := by show num [x, y] = _; simp [num]
   have e2 : (2 : Int) ^ (8 * 2 ^ 1 - 2) = 16384 := rfl
   have e3 : (2 : Int) ^ (4 * 2 ^ 1 - 2) = 64 := rfl
   have hx : x.toNat / 64 = 1 := ht
   have hy := y.toNat_lt
   rw [e, e2, e3] at h
   by_cases hm : 0 < 1 ∧ ((x.toNat : Int) * 256 + y.toNat) % 16384 / 64 = 0
   · rw [if_pos hm] at h; simp at h
   rw [if_neg hm] at h
   simp only [Prod.mk.injEq] at h
   obtain ⟨h1, h2, _⟩ := h
   have h2 : t = r := h2
   subst h2
   refine ⟨by omega, by omega, ?_⟩
   unfold vlen
   rw [if_neg (by omega), if_pos (by omega), show ((n.toNat + 16384 : Nat) : Int) = num [x, y] by simp [num]; omega]
   have := ia [x, y]
   rw [show ([x, y] : List UInt8).length = 2 from rfl] at this
   rw [this]; rfl
 · rw [if_neg (by decide)] at h
   by_cases hl : rest.length < 2 ^ 2
   · rw [if_pos hl] at h; simp at h
   rw [if_neg hl] at h
   obtain ⟨x, y, z, u, t, rfl⟩ : ∃ x y z u t, rest = x :: y :: z :: u :: t := by
     match rest, hl with
     | [], hl => simp at hl
     | [x], hl => simp at hl
     | [x, y], hl => simp at hl
     | [x, y, z], hl => simp at hl
     | x :: y :: z :: u :: t, _ => exact ⟨x, y, z, u, t, rfl⟩
   have e : num ((x :: y :: z :: u :: t).take (2 ^ 2)) = (((x.toNat : Int) * 256 + y.toNat) * 256 + z.toNat) * 256 + u.toNat := by show num [x, y, z, u] = _; simp [num]
   have e2 : (2 : Int) ^ (8 * 2 ^ 2 - 2) = 1073741824 := rfl
   have e3 : (2 : Int) ^ (4 * 2 ^ 2 - 2) = 16384 := rfl
   have hx : x.toNat / 64 = 2 := ht
   have hy := y.toNat_lt
   have hz := z.toNat_lt
   have hu := u.toNat_lt
   rw [e, e2, e3] at h
   by_cases hm : 0 < 2 ∧ ((((x.toNat : Int) * 256 + y.toNat) * 256 + z.toNat) * 256 + u.toNat) % 1073741824 / 16384 = 0
   · rw [if_pos hm] at h; simp at h
   rw [if_neg hm] at h
   simp only [Prod.mk.injEq] at h
   obtain ⟨h1, h2, _⟩ := h
   have h2 : t = r := h2
   subst h2
   refine ⟨by omega, by omega, ?_⟩
   unfold vlen
   rw [if_neg (by omega), if_neg (by omega), show ((n.toNat + 2147483648 : Nat) : Int) = num [x, y, z, u] by simp [num]; omega]
   have := ia [x, y, z, u]
   rw [show ([x, y, z, u] : List UInt8).length = 4 from rfl] at this
   rw [this]; rfl
 · rw [if_pos rfl] at h; simp at h
theorem fJ {rest x r : List UInt8} {e : Int} (h : rVec rest e = (x, r, 0)) : e = 0 ∧ rest = vec x ++ r ∧ x.length ≤ 65536 := by
 unfold rVec at h
 by_cases he : e = 0
 · subst he
   rw [if_neg (by decide)] at h
   obtain ⟨n, r1, e1, h1⟩ : ∃ n r1 e1, rLen rest 0 = (n, r1, e1) := ⟨_, _, _, rfl⟩
   rw [h1] at h
   dsimp only at h
   by_cases h2 : e1 = 0
   · subst h2
     rw [if_neg (by decide)] at h
     by_cases h3 : 65536 < n
     · rw [if_pos h3] at h; simp at h
     · rw [if_neg h3] at h
       obtain ⟨g0, g1, g2⟩ := nK h1
       by_cases h4 : (r1.length : Int) < n
       · have e : rTake r1 0 n = ([], r1, 20) := by unfold rTake; rw [if_neg (by decide), if_neg (by omega), if_pos h4]
         rw [e] at h; simp at h
       · have e : rTake r1 0 n = (r1.take n.toNat, r1.drop n.toNat, 0) := by unfold rTake; rw [if_neg (by decide), if_neg (by omega), if_neg h4]
         rw [e] at h
         simp at h
         obtain ⟨hx, hr⟩ := h
         have hl : x.length = n.toNat := by rw [← hx, List.length_take]; omega
         refine ⟨rfl, ?_, by omega⟩
         unfold vec
         rw [hl, g2, List.append_assoc, ← hx, ← hr, List.take_append_drop]
   · rw [if_pos h2] at h; simp at h; exact absurd h.2.2 h2
 · rw [if_pos he] at h; simp at h; exact absurd h.2.2 he
theorem l7 (xs : List UInt8) : 0 < (vec xs).length := by
 unfold vec vlen
 rw [List.length_append]
 split
 · rw [bi]; omega
 · split <;> rw [bi] <;> omega
abbrev Tri := List UInt8 × List UInt8 × List UInt8
def triB (x : Tri) : List UInt8 := vec x.1 ++ vec x.2.1 ++ vec x.2.2
def dD (rest : List UInt8) (e : Int) : Tri × List UInt8 × Int :=
 let a := rVec rest e
 let b := rVec a.2.1 a.2.2
 let c := rVec b.2.1 b.2.2
 ((a.1, b.1, c.1), c.2.1, c.2.2)
def triL : Nat → List UInt8 → Int → List Tri × List UInt8 × Int
 | 0, rest, e => ([], rest, e)
 | n + 1, rest, e =>
   if 0 < rest.length ∧ e = 0 then
     let t := dD rest e
     let l := triL n t.2.1 t.2.2
     (t.1 :: l.1, l.2)
   else ([], rest, e)
theorem tri1_ok {rest r : List UInt8} {e : Int} {x : Tri} (h : dD rest e = (x, r, 0)) : e = 0 ∧ rest = triB x ++ r ∧ x.1.length ≤ 65536 ∧ x.2.1.length ≤ 65536 ∧ x.2.2.length ≤ 65536 := by
 unfold dD at h
 obtain ⟨a, ra, ea, ha⟩ : ∃ a ra ea, rVec rest e = (a, ra, ea) := ⟨_, _, _, rfl⟩
 rw [ha] at h; dsimp only at h
 obtain ⟨b, rb, eb, hb⟩ : ∃ b rb eb, rVec ra ea = (b, rb, eb) := ⟨_, _, _, rfl⟩
 rw [hb] at h; dsimp only at h
 obtain ⟨c, rc, ec, hc⟩ : ∃ c rc ec, rVec rb eb = (c, rc, ec) := ⟨_, _, _, rfl⟩
 rw [hc] at h
 simp only [Prod.mk.injEq] at h
 obtain ⟨rfl, rfl, rfl⟩ := h
 obtain ⟨rfl, h3, l3⟩ := fJ hc
 obtain ⟨rfl, h2, l2⟩ := fJ hb
 obtain ⟨rfl, h1, l1⟩ := fJ ha
 exact ⟨rfl, by unfold triB; rw [h1, h2, h3]; simp, l1, l2, l3⟩
theorem nB (x : Tri) : 0 < (triB x).length := by
 unfold triB
 have := l7 x.1
 rw [List.length_append, List.length_append]; omega
theorem mI {n : Nat} {rest : List UInt8} {e : Int} (hr : 0 < rest.length) (he : e = 0) : triL (n + 1) rest e = ((dD rest e).1 :: (triL n (dD rest e).2.1 (dD rest e).2.2).1, (triL n (dD rest e).2.1 (dD rest e).2.2).2) := by
 rw [triL, if_pos ⟨hr, he⟩]
theorem mz (n : Nat) {rest : List UInt8} {e : Int} (h : ¬ (0 < rest.length ∧ e = 0)) : triL n rest e = ([], rest, e) := by
 cases n with
 | zero => rfl
 | succ n => rw [triL, if_neg h]
theorem gO {rest : List UInt8} {e : Int} (hr : 0 < rest.length) : (dD rest e).2.2 = 0 → (dD rest e).2.1.length < rest.length := by
 intro h
 have ht : dD rest e = ((dD rest e).1, (dD rest e).2.1, 0) := Prod.ext rfl (Prod.ext rfl h)
 obtain ⟨_, h4, _⟩ := tri1_ok ht
 have hp := nB (dD rest e).1
 have := congrArg List.length h4
 rw [List.length_append] at this
 omega
def TriI (lb : List UInt8) (xs : List Tri) (rest : List UInt8) (e : Int) : Prop := ∃ n, rest.length + (if e = 0 then 1 else 0) ≤ n ∧ triL (lb.length + 1) lb 0 = (xs ++ (triL n rest e).1, (triL n rest e).2)
theorem kj (lb : List UInt8) : TriI lb [] lb 0 := ⟨lb.length + 1, by simp, by simp⟩
theorem mK {lb rest : List UInt8} {xs : List Tri} {e : Int} (h : TriI lb xs rest e) (hr : 0 < rest.length) (he : e = 0) : TriI lb (xs ++ [(dD rest e).1]) (dD rest e).2.1 (dD rest e).2.2 := by
 obtain ⟨n, hn, h⟩ := h
 rw [if_pos he] at hn
 cases n with
 | zero => omega
 | succ n =>
   rw [mI hr he] at h
   refine ⟨n, ?_, by rw [h]; simp⟩
   by_cases h0 : (dD rest e).2.2 = 0
   · rw [if_pos h0]
     have := gO hr h0
     omega
   · rw [if_neg h0]
     have : (dD rest e).2.1.length ≤ rest.length := Nat.le_trans (bS _ _) (Nat.le_trans (bS _ _) (bS _ _))
     omega
theorem nA {lb rest : List UInt8} {xs : List Tri} {e : Int} (h : TriI lb xs rest e) (hc : ¬ (0 < rest.length ∧ e = 0)) : triL (lb.length + 1) lb 0 = (xs, rest, e) := by
 obtain ⟨n, _, h⟩ := h
 rw [mz n hc] at h
 rw [h]; simp
theorem bU (rest : List UInt8) (e : Int) : (rVec rest e).1.length ≤ 65536 := by
 by_cases h : (rVec rest e).2.2 = 0
 · have h' : rVec rest e = ((rVec rest e).1, (rVec rest e).2.1, 0) := Prod.ext rfl (Prod.ext rfl h)
   exact (fJ h').2.2
 · unfold rVec at h ⊢
   by_cases h1 : e ≠ 0
   · rw [if_pos h1]; simp
   · rw [if_neg h1] at h ⊢
     dsimp only at h ⊢
     by_cases h2 : (rLen rest 0).2.2 ≠ 0
     · rw [if_pos h2]; simp
     · rw [if_neg h2] at h ⊢
       by_cases h3 : 65536 < (rLen rest 0).1
       · rw [if_pos h3]; simp
       · rw [if_neg h3] at h ⊢
         by_cases h4 : (rTake (rLen rest 0).2.1 0 (rLen rest 0).1).2.2 ≠ 0
         · rw [if_pos h4]; simp
         · rw [if_neg h4] at h; exact absurd h h4
def TriJ (lb : List UInt8) (xs : List Tri) (rest : List UInt8) (e : Int) : Prop := TriI lb xs rest e ∧ xs.length + rest.length ≤ lb.length + (if e = 0 then 0 else 1)
theorem ki (lb : List UInt8) : TriJ lb [] lb 0 := ⟨kj lb, by simp⟩
theorem mJ {lb rest : List UInt8} {xs : List Tri} {e : Int} (h : TriJ lb xs rest e) (hr : 0 < rest.length) (he : e = 0) : TriJ lb (xs ++ [(dD rest e).1]) (dD rest e).2.1 (dD rest e).2.2 := by
 refine ⟨mK h.1 hr he, ?_⟩
 have h2 := h.2
 rw [if_pos he] at h2
 rw [List.length_append, List.length_singleton]
 by_cases h0 : (dD rest e).2.2 = 0
 · rw [if_pos h0]
   have := gO hr h0
   omega
 · rw [if_neg h0]
   have : (dD rest e).2.1.length ≤ rest.length := Nat.le_trans (bS _ _) (Nat.le_trans (bS _ _) (bS _ _))
   omega
theorem mO : ∀ x ∈ ([] : List Tri), x.1.length ≤ 65536 ∧ x.2.1.length ≤ 65536 ∧ x.2.2.length ≤ 65536 := fun x hx => by cases hx
theorem kl {xs : List Tri} (h : ∀ x ∈ xs, x.1.length ≤ 65536 ∧ x.2.1.length ≤ 65536 ∧ x.2.2.length ≤ 65536) (rest : List UInt8) (e : Int) : ∀ x ∈ xs ++ [(dD rest e).1], x.1.length ≤ 65536 ∧ x.2.1.length ≤ 65536 ∧ x.2.2.length ≤ 65536 := by
 intro x hx
 rcases List.mem_append.1 hx with h1 | h1
 · exact h x h1
 · rw [List.mem_singleton] at h1; subst h1
   exact ⟨bU _ _, bU _ _, bU _ _⟩
def triM (rest : List UInt8) (e : Int) : Nat := rest.length + (if e = 0 then 1 else 0)
theorem mH {rest : List UInt8} {e : Int} (hr : 0 < rest.length) (he : e = 0) : triM (dD rest e).2.1 (dD rest e).2.2 < triM rest e := by
 unfold triM
 rw [if_pos he]
 by_cases h0 : (dD rest e).2.2 = 0
 · rw [if_pos h0]; have := gO hr h0; omega
 · rw [if_neg h0]
   have : (dD rest e).2.1.length ≤ rest.length := Nat.le_trans (bS _ _) (Nat.le_trans (bS _ _) (bS _ _))
   omega
def triOk (x : Tri) : Bool := decide (x.1.length = 32) && decide (x.2.1.length = 32) && decide (x.2.2.length ≤ 30000)
def triN (ss : List Tri) : Nat := (ss.map fun x => 70 + x.2.2.length).sum
def welOk (ss : List Tri) (info : List UInt8) : Bool := decide (1 ≤ ss.length) && decide (ss.length ≤ 64) && decide (info.length ≤ 64000) && ss.all triOk && decide (triN ss ≤ 60000)
def welE (ss : List Tri) (info : List UInt8) : Int := bif welOk ss info then 0 else 1
def welB (ss : List Tri) (info : List UInt8) : List UInt8 := bif welOk ss info then vec (ss.flatMap triB) ++ vec info else []
theorem mG {ss : List Tri} {i : Nat} {x : Tri} (h : ss[i]? = some x) : triN (ss.take (i + 1)) = triN (ss.take i) + (70 + x.2.2.length) := by
 rw [cQ h]; unfold triN; simp
theorem triN_le (ss : List Tri) (i : Nat) : triN (ss.take i) ≤ triN ss := by
 have : triN ss = triN (ss.take i) + triN (ss.drop i) := by unfold triN; rw [← List.sum_append, ← List.map_append, List.take_append_drop]
 omega
theorem mm {ss : List Tri} {i : Nat} {x : Tri} (h : ss[i]? = some x) : (ss.take (i + 1)).flatMap triB = (ss.take i).flatMap triB ++ triB x := by
 rw [cQ h]; simp
theorem oA {ss : List Tri} {i : Nat} {x : Tri} (h : ss[i]? = some x) (ha : (ss.take i).all triOk = true) (hx : triOk x = true) : (ss.take (i + 1)).all triOk = true := by
 rw [cQ h, List.all_append, ha]; simp [hx]
theorem fT {x : Tri} : triOk x = true ↔ x.1.length = 32 ∧ x.2.1.length = 32 ∧ x.2.2.length ≤ 30000 := by
 unfold triOk; simp only [Bool.and_eq_true, decide_eq_true_eq, and_assoc]
theorem jp {x : Tri} (h : triOk x = true) : (triB x).length ≤ 70 + x.2.2.length := by
 obtain ⟨h1, h2, h3⟩ := fT.1 h
 unfold triB vec
 have e1 : (vlen x.1.length).length = 1 := by rw [h1]; rfl
 have e2 : (vlen x.2.1.length).length = 1 := by rw [h2]; rfl
 have e3 := av x.2.2.length
 simp only [List.length_append]; omega
theorem gK : ∀ {ss : List Tri}, ss.all triOk = true → (ss.flatMap triB).length ≤ triN ss
 | [], _ => by simp
 | x :: ss, h => by
   rw [List.all_cons, Bool.and_eq_true] at h
   have h1 := jp h.1
   have h2 := gK h.2
   rw [List.flatMap_cons, List.length_append]
   have : triN (x :: ss) = (70 + x.2.2.length) + triN ss := by unfold triN; simp
   omega
theorem bad_at {ss : List Tri} {info : List UInt8} {i : Nat} {x : Tri} (h : ss[i]? = some x) (hx : triOk x = false) : welOk ss info = false := by
 have : ss.all triOk = false := by
   rw [List.all_eq_false]
   exact ⟨x, List.mem_of_getElem? h, by simp [hx]⟩
 unfold welOk; rw [this]; simp
theorem bad_sum {ss : List Tri} {info : List UInt8} (i : Nat) (hx : 60000 < triN (ss.take i)) : welOk ss info = false := by
 have := triN_le ss i
 unfold welOk; rw [decide_eq_false (show ¬ triN ss ≤ 60000 by omega)]; simp
theorem bad_len {ss : List Tri} {info : List UInt8} (h : ss.length < 1 ∨ 64 < ss.length ∨ 64000 < info.length) : welOk ss info = false := by
 unfold welOk
 rcases h with h | h | h
 · rw [decide_eq_false (show ¬ 1 ≤ ss.length by omega)]; simp
 · rw [decide_eq_false (show ¬ ss.length ≤ 64 by omega)]; simp
 · rw [decide_eq_false (show ¬ info.length ≤ 64000 by omega)]; simp
theorem ni {ss : List Tri} {info : List UInt8} (h1 : 1 ≤ ss.length) (h2 : ss.length ≤ 64) (h3 : info.length ≤ 64000) (h4 : ss.all triOk = true) (h5 : triN ss ≤ 60000) : welOk ss info = true := by
 unfold welOk
 rw [decide_eq_true h1, decide_eq_true h2, decide_eq_true h3, h4, decide_eq_true h5]; rfl
def welP (c : List UInt8) : (List Tri × List UInt8 × Int) × List UInt8 × List UInt8 × Int :=
 let a := rVec c 0
 let b := rVec a.2.1 a.2.2
 (triL (a.1.length + 1) a.1 0, b.1, b.2.1, b.2.2)
def getOk (c : List UInt8) : Bool := welOk (welP c).1.1 (welP c).2.1 && decide (welB (welP c).1.1 (welP c).2.1 = c)
def getS (c : List UInt8) : List Tri := bif getOk c then (welP c).1.1 else []
def getI (c : List UInt8) : List UInt8 := bif getOk c then (welP c).2.1 else []
def getE (c : List UInt8) : Int := bif getOk c then 0 else 21
theorem mt {c : List UInt8} {xs : List Tri} {rest : List UInt8} {e : Int} (h : triL ((rVec c 0).1.length + 1) (rVec c 0).1 0 = (xs, rest, e)) : welP c = ((xs, rest, e), (rVec (rVec c 0).2.1 (rVec c 0).2.2).1, (rVec (rVec c 0).2.1 (rVec c 0).2.2).2.1, (rVec (rVec c 0).2.1 (rVec c 0).2.2).2.2) := by
 unfold welP; dsimp only; rw [h]
theorem getOk_1 {c : List UInt8} {xs : List Tri} {rest : List UInt8} {e : Int} (h : triL ((rVec c 0).1.length + 1) (rVec c 0).1 0 = (xs, rest, e)) : getOk c = (welOk xs (rVec (rVec c 0).2.1 (rVec c 0).2.2).1 && decide (welB xs (rVec (rVec c 0).2.1 (rVec c 0).2.2).1 = c)) := by
 unfold getOk; rw [mt h]
end Go.Byt
namespace Go.Eng
open Go Go.Byt
def TriR (w : World) (cs : List Value) (x : Tri) : Prop := ∃ r e b, cs = [r, e, b] ∧ RdB w r x.1 ∧ RdB w e x.2.1 ∧ RdB w b x.2.2
theorem TriR.oC {w w' : World} {cs : List Value} {x : Tri} (h : TriR w cs x) (k : Keep [] w w') : TriR w' cs x := by
 obtain ⟨r, e, b, h0, h1, h2, h3⟩ := h; exact ⟨r, e, b, h0, h1.oC k, h2.oC k, h3.oC k⟩
abbrev RdT (w : World) (v : Value) (ss : List Tri) : Prop := RdE w 3 (TriR w) v ss
theorem RdT.oC {w w' : World} {v : Value} {ss : List Tri} (h : RdT w v ss) (k : Keep [] w w') : RdT w' v ss := (RdE.keep h k (fun _ _ h => by cases h)).mono fun _ _ h => h.oC k
theorem tri_at {w : World} {css : List (List Value)} {ss : List Tri} (h : Els 3 (TriR w) css ss) {i : Nat} (hi : i < ss.length) : ∃ x r e b, ss[i]? = some x ∧ (css.flatten.drop (i * 3)).take 3 = [r, e, b] ∧ RdB w r x.1 ∧ RdB w e x.2.1 ∧ RdB w b x.2.2 := by
 obtain ⟨h1, h2, h3⟩ := h
 have hc : css[i]? = some (css[i]'(by omega)) := List.getElem?_eq_getElem (by omega)
 have hx : ss[i]? = some ss[i] := List.getElem?_eq_getElem hi
 obtain ⟨r, e, b, h0, hr, he, hb⟩ := h3 i _ _ hc hx
 exact ⟨_, r, e, b, hx, by rw [← h0]; exact eU h2 hc, hr, he, hb⟩
abbrev OwB (t8 : TypeId) (w : World) (lo : Nat) (u : Value) (xs : List UInt8) : Prop := Own w lo t8 1 u xs.length (bv xs)
def TriO (t8 : TypeId) (w : World) (lo : Nat) (v : Value) (cs : List Value) (x : Tri) : Prop := ∃ r e b, cs = [r, e, b] ∧ OwB t8 w lo r x.1 ∧ OwB t8 w lo e x.2.1 ∧ OwB t8 w lo b x.2.2 ∧ (∀ y, y ∈ vblk r → y ∉ vblk v) ∧ (∀ y, y ∈ vblk e → y ∉ vblk v) ∧ (∀ y, y ∈ vblk b → y ∉ vblk v)
def OwT (t8 : TypeId) (w : World) (lo : Nat) (T : TypeId) (v : Value) (ss : List Tri) : Prop := OwnE w lo T 3 (TriO t8 w lo v) v ss
theorem OwT.rdT {t8 : TypeId} {w : World} {lo : Nat} {T : TypeId} {v : Value} {ss : List Tri} (h : OwT t8 w lo T v ss) : RdT w v ss := (OwnE.rd h).mono fun _ _ ⟨r, e, b, h0, h1, h2, h3, _⟩ => ⟨r, e, b, h0, h1.rd, h2.rd, h3.rd⟩
theorem OwT.blk {t8 : TypeId} {w : World} {lo : Nat} {T : TypeId} {v : Value} {ss : List Tri} (h : OwT t8 w lo T v ss) : ∀ x, x ∈ vblk v → lo ≤ x ∧ x < w.heap.size := OwnE.blk h
theorem OwT.keepL {t8 : TypeId} {S : List Nat} {w w' : World} {lo : Nat} {T : TypeId} {v : Value} {ss : List Tri} (h : OwT t8 w lo T v ss) (k : Keep S w w') (hS : ∀ x, x ∈ S → x < lo) : OwT t8 w' lo T v ss := by
 have ap : ∀ {u : Value} {xs : List UInt8}, OwB t8 w lo u xs → OwB t8 w' lo u xs := fun ho => Own.keep ho k (fun x hx hm => by have h1 := hS x hm; have h2 := (Own.blk ho x hx).1; omega)
 refine (OwnE.keep h k (fun x hx hm => by have h1 := hS x hm; have h2 := (OwnE.blk h x hx).1; omega)).mono fun _ _ ⟨r, e, b, h0, h1, h2, h3, h4⟩ => ⟨r, e, b, h0, ap h1, ap h2, ap h3, h4⟩
theorem OwT.oC {t8 : TypeId} {w w' : World} {lo : Nat} {T : TypeId} {v : Value} {ss : List Tri} (h : OwT t8 w lo T v ss) (k : Keep [] w w') : OwT t8 w' lo T v ss := h.keepL k (fun _ h => by cases h)
theorem OwT.keep {t8 : TypeId} {S : List Nat} {w w' : World} {lo : Nat} {T : TypeId} {v : Value} {ss : List Tri} (h : OwT t8 w lo T v ss) (k : Keep S w w') (hS : ∀ x, lo ≤ x → x ∉ S) : OwT t8 w' lo T v ss := h.keepL k (fun x hx => by rcases Nat.lt_or_ge x lo with h | h; exact h; exact absurd hx (hS x h))
theorem owT_nil (t8 : TypeId) (w : World) (lo : Nat) (T : TypeId) : OwT t8 w lo T (.slice none 0 0) [] := kC _ _ _ _ _
theorem OwT.lo {t8 : TypeId} {w : World} {lo lo' : Nat} {T : TypeId} {v : Value} {ss : List Tri} (h : OwT t8 w lo T v ss) (hl : lo' ≤ lo) : OwT t8 w lo' T v ss := (OwnE.lo h hl).mono fun _ _ ⟨r, e, b, h0, h1, h2, h3, h4⟩ => ⟨r, e, b, h0, Own.lo h1 hl, Own.lo h2 hl, Own.lo h3 hl, h4⟩
theorem OwT.one {t8 : TypeId} {w : World} {lo : Nat} {T : TypeId} {v : Value} {ss : List Tri} (h : OwT t8 w lo T v ss) : v.oneCell' = true := by obtain ⟨css, _, h⟩ := h; exact h.rd.one
theorem Rd.some' {w : World} {s n : Nat} {v : Value} {cs : List Value} (h : Rd w s v n cs) (hn : 0 < n) : ∃ a m c, v = .slice (some a) m c := by
 obtain ⟨A, c, rfl, h1, _, _, h4, _⟩ := h
 cases A with
 | none => have := h4 rfl; omega
 | some a => exact ⟨a, _, _, rfl⟩
theorem kf (a : Addr) (i j : Nat) : (a.add i).add j = a.add (i + j) := by
 unfold Addr.add
 by_cases hi : i = 0 <;> by_cases hj : j = 0 <;> simp [hi, hj, Nat.add_assoc]
section
variable {P : Program} {n : NN} {f : Fr} {w : World} {ty : TypeId}
theorem jM {x : Operand} {T : TypeId} {fs : Array Field} {i : Nat} {fd : Field} {v : Value} {k : Nat} {zs : List Value} {s by_ : Nat} (hT : P.underlying T = some (.struct fs)) (hf : fs[i]? = some fd) (hs : Ty P fd.type zs s by_) (h0 : s ≠ 0)
   (hx : f.ev x = some (.pointer (some (ea v k)))) (hv : ∃ a m c, v = .slice (some a) m c) : Gives P n f w (.fieldAddr T x i) ty (.pointer (some (ea v (k + fd.offset)))) w := by
 intro a ha dst pos aft g
 obtain ⟨A, m, c, rfl⟩ := hv
 simp [execOp, ha.ev hx, Instr.fieldAt, run_underlying hT, hf, Instr.sureAddr, fieldPlace, hs.sizeOf, h0, Eng.ea, kf]
theorem gy {x : Operand} {i : FuncId} {args : Array Operand} {ats : Array TypeId} {vs : List Value} {R : Value → World → Prop} (hf : f.ev x = some (.func (.func i) #[] #[])) (hx : f.evs args.toList = some vs) (hc : Rets P i vs w R) :
   Does P n f w (.call { callee := .value x, args := args, argTypes := ats }) ty R := by
 intro a ha dst pos aft g K Q hK
 obtain ⟨⟨fn, hfn, hb, hnm⟩, hcalls⟩ := hc
 have hb' : fn.body.isNone = false := by cases h : fn.body <;> simp_all
 have hm : args.map a.eval = vs.toArray := by rw [← Array.toList_inj]; simp [ha.evs hx]
 have hr : (execOp a.eval ⟨dst, .call { callee := .value x, args := args, argTypes := ats }, ty, pos, aft, g⟩).run P w = .ok (.enter i vs.toArray) w := by
   have hcf : (callFunc i vs.toArray).run P w = .ok (.enter i vs.toArray) w := by
     simp only [callFunc, Sem.run_bind, run_program, Result.andThen_ok, hfn, hnm, Bool.false_eq_true, if_false, hb', Sem.run_pure]
   simp [execOp, resolve, Deferred.ofValue, ha.ev hf, invoke, hm, hcf]
 unfold Oper.wp
 rw [hr]
 exact Calls.mono hcalls fun e w' ⟨v, he, hv⟩ => by subst he; exact hK v w' hv
theorem d_appT {t8 t e : TypeId} {x y : Operand} {lo by_ : Nat} {v u r q b : Value} {ss : List Tri} {z : Tri} {zs : List Value} (ht : P.underlying t = some (.slice e)) (he : Ty P e zs 3 by_) (hzs : zs.length = 3)
   (hx : f.ev x = some v) (ho : OwT t8 w lo e v ss) (hy : f.ev y = some u) (hr : Rd w 3 u 1 [r, q, b]) (h1 : OwB t8 w lo r z.1) (h2 : OwB t8 w lo q z.2.1) (h3 : OwB t8 w lo b z.2.2)
   (a1 : ∀ y, y ∈ vblk r → y ∉ vblk v) (a2 : ∀ y, y ∈ vblk q → y ∉ vblk v) (a3 : ∀ y, y ∈ vblk b → y ∉ vblk v) (hb : (ss.length + 1) * by_ ≤ 140737488355328 ∧ ss.length + 1 ≤ 9223372036854775807) (hl : lo ≤ w.heap.size) :
   Does P n f w (.call { callee := .builtin .append, args := #[x, y], argTypes := #[t, t] }) ty
     (fun v' w' => OwT t8 w' lo e v' (ss ++ [z]) ∧ Keep (vblk v) w w' ∧ (∀ x, x ∈ vblk v' → x ∈ vblk v ∨ w.heap.size ≤ x)) := by
 obtain ⟨css, hE, hO⟩ := ho
 have one : ∀ c ∈ [r, q, b], c.oneCell' = true := by
   intro c hc
   simp only [List.mem_cons, List.not_mem_nil, or_false] at hc
   rcases hc with rfl | rfl | rfl
   · exact (Own.rd h1).one
   · exact (Own.rd h2).one
   · exact (Own.rd h3).one
 refine (ns ht he (by decide) hzs hx hO hy hr one hb hl).mono fun v' w' ⟨g1, g2, g3, _⟩ => ⟨⟨css ++ [[r, q, b]], ?_, ?_⟩, g2, g3⟩
 · have ap : ∀ {u : Value} {xs : List UInt8}, OwB t8 w lo u xs → (∀ y, y ∈ vblk u → y ∉ vblk v) → OwB t8 w' lo u xs ∧ ∀ y, y ∈ vblk u → y ∉ vblk v' := fun ho ha =>
     ⟨Own.keep ho g2 ha, fun y hy hm => by
       rcases g3 y hm with h | h
       · exact ha y hy h
       · have := (Own.blk ho y hy).2; omega⟩
   refine Els.snoc (hE.mono fun cs x ⟨r, e, b, h0, i1, i2, i3, i4, i5, i6⟩ => ⟨r, e, b, h0, (ap i1 i4).1, (ap i2 i5).1, (ap i3 i6).1, (ap i1 i4).2, (ap i2 i5).2, (ap i3 i6).2⟩) rfl ⟨r, q, b, rfl, (ap h1 a1).1, (ap h2 a2).1, (ap h3 a3).1, (ap h1 a1).2, (ap h2 a2).2, (ap h3 a3).2⟩
 · rw [List.flatten_append, List.length_append]; simpa using g1
end
theorem lg {w : World} {lo : Nat} {e : TypeId} {u : Value} {xs : List UInt8} (o : Own w lo e 1 u (xs.length + 2) (bv (xs ++ [201, 202]))) : RdB w (cut u 0 xs.length 1) xs := by
 have h : RdB w u (xs ++ [201, 202]) := by unfold RdB; rw [List.length_append]; exact o.rd
 have h' := h.cutB (l := 0) (hi := xs.length) (by omega) (by simp)
 simpa using h'
theorem cut_cut {w : World} {n : Nat} {cs : List Value} {u : Value} {m k : Nat} (h : Rd w 1 u n cs) : cut (cut u 0 m 1) 0 k 1 = cut u 0 k 1 := by
 obtain ⟨A, c, rfl, _⟩ := h
 have e : ∀ a : Addr, a.add 0 = a := fun a => Addr.add_zero' a
 cases A with
 | none => simp [cut]
 | some a => simp [cut, e]
theorem gf (xs : List UInt8) : gb (xs ++ [201, 202]) (xs.length : Int) = 201 := by unfold gb; simp
theorem mark2 (xs : List UInt8) : gb (xs ++ [201, 202]) ((xs.length : Int) + 1) = 202 := by
 unfold gb
 rw [show ((xs.length : Int) + 1).toNat = xs.length + 1 by omega, List.getD_eq_getElem?_getD, List.getElem?_append_right (by omega)]
 simp
theorem RdT.one {w : World} {v : Value} {ss : List Tri} (h : RdT w v ss) : v.oneCell' = true := by obtain ⟨_, _, h⟩ := h; exact h.one
theorem SlL.cblk {w : World} {lo : Nat} {T : TypeId} {v : Value} {ls : List (List UInt8)} (h : SlL w lo T v ls) : Eng.cblk v = Eng.vblk v := by obtain ⟨us, _, _, h3⟩ := h; exact h3.rd.cblk
end Go.Eng
namespace Go.Eng
open Go
structure Endz (P : Program) (i : FuncId) (args : List Value) (w : World) (R : Ending → World → Prop) : Prop where
  ok : CallOk P i
  calls : Calls P i args.toArray w R
theorem Endz.mono {P : Program} {i : FuncId} {args : List Value} {w : World} {R R' : Ending → World → Prop} (h : Endz P i args w R) (hr : ∀ e w', R e w' → R' e w') : Endz P i args w R' := ⟨h.ok, Calls.mono h.calls hr⟩
def orDies (b : Bool) (ch : List PanicEntry) : Ending := bif b then .returned (.tuple #[]) else .panicked ch
theorem iQ {n m : Nat} {args : List Value} (hn : m = n) (hle : args.length ≤ n) : Kn ⟨n, []⟩ (argFr 0 args) { tmps := args.toArray ++ Array.replicate (m - args.toArray.size) undef, defers := [] } := by
 refine ⟨by simp [hn]; omega, rfl, fun t v ht => ?_⟩
 have := (gY args 0 t v ht).2
 simp only [Nat.sub_zero] at this
 have hlt : t < args.length := by
   rcases Nat.lt_or_ge t args.length with h | h
   · exact h
   · rw [List.getElem?_eq_none h] at this; cases this
 rw [Array.getD_eq_getD_getElem?, Array.getElem?_append_left (by simpa using hlt)]
 simp [this]
theorem ey {P : Program} {i : FuncId} {fn : Func} {c : Code} {args : List Value} {w : World} {R : Ending → World → Prop} {n : Nat}
   (hf : P.funcs[i]? = some fn) (hb : fn.body = some c) (hnm : (fn.name == "runtime.NumGoroutine") = false) (hn : fn.ntmps = n) (hle : Nat.ble args.length n = true)
   (h : ∀ fin, (∀ a w, (a.defers = [] ∧ ∃ v, (results fn a.tmps).run P w = .ok v w ∧ R (.returned v) w) → fin .ret a w ∧ fin .normal a w) → (∀ ch a w, a.defers = [] → R (.panicked ch) w → fin (.panic ch) a w) →
     TW P fin ⟨n, []⟩ [.c c] (argFr 0 args) w) : Endz P i args w R := by
 replace hle := Nat.le_of_ble_eq_true hle
 refine ⟨⟨fn, hf, by rw [hb]; rfl, hnm⟩, calls_of_wp hf hb ?_⟩
 have h' := h (bodyPost P fn R) (fun a w ⟨hd, v, hr, hR⟩ => ⟨⟨hd, v, hr, hR⟩, ⟨hd, v, hr, hR⟩⟩) (fun ch a w hd hR => ⟨hd, hR⟩) _ (iQ hn hle)
 simp only [KQ] at h'
 refine Code.wp_mono (fun e a w q => ?_) h'
 cases e <;> exact q
theorem ga {P : Program} {i : FuncId} {fn : Func} {c : Code} {args : List Value} {w : World} {R : Value → World → Prop} {n : Nat}
   (hf : P.funcs[i]? = some fn) (hb : fn.body = some c) (hnm : (fn.name == "runtime.NumGoroutine") = false) (hn : fn.ntmps = n) (hle : Nat.ble args.length n = true)
   (h : ∀ fin, (∀ a w, Leaves P fn a.tmps (fun e w' => ∃ v, e = .returned v ∧ R v w') a.defers .returning w → fin .ret a w ∧ fin .normal a w) → (∀ ch a w, Leaves P fn a.tmps (fun e w' => ∃ v, e = .returned v ∧ R v w') a.defers (.panicking ch) w → fin (.panic ch) a w) →
     TW P fin ⟨n, []⟩ [.c c] (argFr 0 args) w) : Rets P i args w R := by
 replace hle := Nat.le_of_ble_eq_true hle
 refine ⟨⟨fn, hf, by rw [hb]; rfl, hnm⟩, calls_of_wp_defers hf hb ?_⟩
 have h' := h (bodyPostD P fn (fun e w' => ∃ v, e = .returned v ∧ R v w')) (fun a w hL => ⟨hL, hL⟩) (fun ch a w hL => hL) _ (iQ hn hle)
 simp only [KQ] at h'
 refine Code.wp_mono (fun e a w q => ?_) h'
 cases e <;> exact q
section
variable {P : Program} {fin : Exit → Act → World → Prop} {n : NN} {k : List KI} {f : Fr} {w : World} {fn : Func} {ops : Array Oper} {l : List Oper} {ty : TypeId}
theorem fA {i : FuncId} (h : CallOk P i) (args : Array Value) (w : World) : (callFunc i args).run P w = .ok (.enter i args) w := by
 obtain ⟨fn, hf, hb, hnm⟩ := h
 have hb' : fn.body.isNone = false := by cases h : fn.body <;> simp_all
 simp only [callFunc, Sem.run_bind, run_program, Result.andThen_ok, hf, hnm, Bool.false_eq_true, if_false, hb', Sem.run_pure]
theorem cw {i : FuncId} {args : Array Operand} {ats : Array TypeId} {vs : List Value} {d : Nat} {pos : String} {aft : Array Edge} {b : Bool} {ch : List PanicEntry} (hx : f.evs args.toList = some vs) (hc : Endz P i vs w (fun e w' => e = orDies b ch ∧ Keep [] w w')) (hd : Nat.blt d n = true)
    (hT : b = true → ∀ w', Keep [] w w' → OW P fin n k ops l ((d, .tuple #[]) :: f) w') (hF : b = false → ∀ w', Keep [] w w' → ∀ a, Kn n f a → fin (.panic ch) a w') :
    OW P fin n k ops (⟨some d, .call { callee := .value (.func i), args := args, argTypes := ats }, ty, pos, aft, none⟩ :: l) f w := by
  intro a ha
  refine wpList_plain rfl fun K hK => ?_
  have hm : args.map a.eval = vs.toArray := by rw [← Array.toList_inj]; simp [ha.evs hx]
  have hr : (execOp a.eval ⟨some d, .call { callee := .value (.func i), args := args, argTypes := ats }, ty, pos, aft, none⟩).run P w = .ok (.enter i vs.toArray) w := by
    simp [execOp, resolve, Deferred.ofValue, Act.eval, invoke, hm, fA hc.ok]
  unfold Oper.wp
  rw [hr]
  refine Calls.mono hc.calls fun e w' ⟨he, hk⟩ => ?_
  cases b with
  | true => subst he; exact hK _ _ (hT rfl w' hk _ (ha.put (bp hd) _))
  | false => subst he; show KQ P fin k (.panic ch) a w'; rw [dr]; exact hF rfl w' hk a ha
theorem nR {x : Operand} {t : TypeId} {v : Value} {dst : Option Nat} {pos : String} {aft : Array Edge} (hx : f.ev x = some (.iface t v)) (h : ∀ a, Kn n f a → fin (.panic [{ v := .iface t v, recovered := false }]) a w) :
   OW P fin n k ops (⟨dst, .panic x, ty, pos, aft, none⟩ :: l) f w := by
 intro a ha
 refine wpList_plain rfl fun K hK => ?_
 have hr : (execOp a.eval ⟨dst, .panic x, ty, pos, aft, none⟩).run P w = .halt (.panic (.iface t v)) w := by
   simp [execOp, ha.ev hx, Instr.panic, goPanic]
 unfold Oper.wp
 rw [hr]
 show KQ P fin k (.panic [{ v := .iface t v, recovered := false }]) a w
 rw [dr]
 exact h a ha
theorem kD {m : Nat} {ds : List Deferred} {g : FuncId} {args : Array Operand} {ats : Array TypeId} {vs : List Value} {pos : String} {aft : Array Edge} (hx : f.evs args.toList = some vs) (h : OW P fin ⟨m, { target := .fn (.func g) #[], args := vs.toArray } :: ds⟩ k ops l f w) :
   OW P fin ⟨m, ds⟩ k ops (⟨none, .defer { callee := .value (.func g), args := args, argTypes := ats }, ty, pos, aft, none⟩ :: l) f w := by
 intro a ha
 refine wpList_plain rfl fun K hK => ?_
 have hm : args.map a.eval = vs.toArray := by rw [← Array.toList_inj]; simp [ha.evs hx]
 have hr : (execOp a.eval ⟨none, .defer { callee := .value (.func g), args := args, argTypes := ats }, ty, pos, aft, none⟩).run P w = .ok (.defer { target := .fn (.func g) #[], args := vs.toArray }) w := by
   simp [execOp, resolve, Deferred.ofValue, Act.eval, hm]
 unfold Oper.wp
 rw [hr]
 exact hK _ _ (h _ ⟨ha.size, by show _ :: a.defers = _; rw [ha.defers], ha.get⟩)
theorem l8 (h : ∀ a, Kn n f a → fin .ret a w) : TW P fin n (.c .ret :: k) f w := fun a ha => wp_ret (by rw [eH]; exact h a ha)
theorem iO {a : Act} {g : FuncId} {vs : List Value} {RR : Ending → World → Prop} {S : World → Prop} (hd : a.defers = [{ target := .fn (.func g) #[], args := vs.toArray }]) (hg : CallOk P g)
   (hc : CallsD P g vs.toArray .returning w (fun e u' w' => (∃ v, e = .returned v) ∧ u' = .returning ∧ S w')) (hr : ∀ w', S w' → ∃ v, (results fn a.tmps).run P w' = .ok v w' ∧ RR (.returned v) w') :
   Leaves P fn a.tmps RR a.defers .returning w := by
 rw [hd]
 refine leaves_cons (f := g) (args := vs.toArray) (by intro h; cases h) (by simp [invoke, fA hg]) (hc.mono ?_)
 rintro e u' w' ⟨⟨v, rfl⟩, rfl, hS⟩
 exact hr w' hS
theorem iP {a : Act} {g : FuncId} {vs : List Value} {RR : Ending → World → Prop} {S : World → Prop} {x : Value} (hd : a.defers = [{ target := .fn (.func g) #[], args := vs.toArray }]) (hg : CallOk P g)
   (hc : CallsD P g vs.toArray (.panicking [{ v := x, recovered := false }]) w (fun e u' w' => (∃ v, e = .returned v) ∧ u' = .panicking [{ v := x, recovered := true }] ∧ S w')) (hr : ∀ w', S w' → ∃ v, (results fn a.tmps).run P w' = .ok v w' ∧ RR (.returned v) w') :
   Leaves P fn a.tmps RR a.defers (.panicking [{ v := x, recovered := false }]) w := by
 rw [hd]
 refine leaves_cons (f := g) (args := vs.toArray) (by intro h; cases h) (by simp [invoke, fA hg]) (hc.mono ?_)
 rintro e u' w' ⟨⟨v, rfl⟩, rfl, hS⟩
 exact hr w' hS
theorem i8 {g : FuncId} {c : Code} {i0 d0 d1 m : Nat} {t0 t1 : TypeId} {p0 p1 : String} {a0 a1 : Array Edge} {args : List Value} {u u1 : FrameMode} {x : Value} {R : Ending → FrameMode → World → Prop}
   (hf : P.funcs[g]? = some fn) (hb : fn.body = some (.seq (.region i0 #[⟨some d0, .call { callee := .builtin .recover, args := #[], argTypes := #[] }, t0, p0, a0, none⟩, ⟨some d1, .assign (.tmp d0), t1, p1, a1, none⟩] false) c)) (hn : fn.ntmps = m) (hle : Nat.ble args.length m = true)
   (hd0 : Nat.blt d0 m = true) (hd1 : Nat.blt d1 m = true)
   (hrec : ∀ (c₀ : Frame) (cs : List Frame), c₀.mode = u → (match recoverD (c₀ :: cs) with | some (v, cs') => (v, cs') | none => (.nilIface, c₀ :: cs)) = (x, { c₀ with mode := u1 } :: cs))
   (h : ∀ fin, (∀ a w, (a.defers = [] ∧ ∃ v, (results fn a.tmps).run P w = .ok v w ∧ R (.returned v) u1 w) → fin .ret a w ∧ fin .normal a w) → TW P fin ⟨m, []⟩ [.c c] ((d1, x) :: (d0, x) :: argFr 0 args) w) :
   CallsD P g args.toArray u w R := by
 refine callsD_of_wpS hf hb (fun c₀ cs hu => ?_)
 refine wpS_seq (wpS_region ?_)
 have hk := iQ (m := fn.ntmps) (args := args) hn (Nat.le_of_ble_eq_true hle)
 generalize ({ tmps := args.toArray ++ Array.replicate (fn.ntmps - args.toArray.size) undef, defers := [] } : Act) = a at hk ⊢
 have hk1 := hk.put (bp hd0) x
 have hk2 := hk1.put (bp hd1) x
 have h' := h (fun e a w => bodyPostS P fn c₀ cs R e a ({ c₀ with mode := u1 } :: cs) w) (fun a w ⟨hd, v, hr, hR⟩ => ⟨⟨hd, _, rfl, v, hr, hR⟩, ⟨hd, _, rfl, v, hr, hR⟩⟩) _ hk2
 have hr1 : (execOp a.eval ⟨some d0, .call { callee := .builtin .recover, args := #[], argTypes := #[] }, t0, p0, a0, none⟩).run P w = .ok .recover w := by simp [execOp, resolve, invoke, builtin]
 have hr2 : (execOp (a.put (some d0) x).eval ⟨some d1, .assign (.tmp d0), t1, p1, a1, none⟩).run P w = .ok (.value x) w := by
   have e := hk1.get d0 x (by simp [Fr.get])
   simp [execOp, Act.eval]
   rw [← Array.getD_eq_getD_getElem?]; exact e
 have hrc := hrec c₀ cs hu
 have hop2 : wpOpsS P #[⟨some d0, .call { callee := .builtin .recover, args := #[], argTypes := #[] }, t0, p0, a0, none⟩, ⟨some d1, .assign (.tmp d0), t1, p1, a1, none⟩] (Exit.thenS (c.wpS P (bodyPostS P fn c₀ cs R)) (bodyPostS P fn c₀ cs R)) [1] (a.put (some d0) x) ({ c₀ with mode := u1 } :: cs) w := by
   simp only [wpOpsS, List.getElem?_toArray, List.getElem?_cons_succ, List.getElem?_cons_zero]
   rw [if_pos (by simp [Region.wanted]), hr2]
   show c.wpS P (bodyPostS P fn c₀ cs R) _ _ _
   refine wpS_of_wp ?_
   simp only [KQ] at h'
   refine Code.wp_mono (fun e a w q => ?_) h'
   cases e <;> exact q
 show wpOpsS P _ _ [0, 1] a (c₀ :: cs) w
 unfold wpOpsS
 simp only [List.getElem?_toArray, List.getElem?_cons_zero]
 rw [if_pos (by simp [Region.wanted]), hr1]
 simp only
 split at hrc
 · rename_i v cs' he
   obtain ⟨rfl, rfl⟩ := Prod.mk.inj hrc
   rw [he]
   exact hop2
 · rename_i he
   obtain ⟨hx, hc⟩ := Prod.mk.inj hrc
   rw [he, hc, hx]
   exact hop2
theorem nI {c₀ : Frame} {cs : List Frame} (h : c₀.mode = .returning) : (match recoverD (c₀ :: cs) with | some (v, cs') => (v, cs') | none => (.nilIface, c₀ :: cs)) = (.nilIface, { c₀ with mode := .returning } :: cs) := by
  have e : ({ c₀ with mode := .returning } : Frame) = c₀ := by rw [← h]
  rw [e]
  simp [recoverD, h]
theorem nH {c₀ : Frame} {cs : List Frame} {v : Value} (h : c₀.mode = .panicking [{ v := v, recovered := false }]) : (match recoverD (c₀ :: cs) with | some (v, cs') => (v, cs') | none => (.nilIface, c₀ :: cs)) = (v, { c₀ with mode := .panicking [{ v := v, recovered := true }] } :: cs) := by
  simp [recoverD, h]
end
end Go.Eng
namespace Go.Eng
open Go Go.IntWalk
section
variable {P : Program} {n : NN} {f : Fr} {w : World} {ty : TypeId}
theorem g_mkf {i : FuncId} {caps : Array Operand} {cs : List Value} (hx : f.evs caps.toList = some cs) : Gives P n f w (.makeFunc (.func i) #[] caps) ty (.func (.func i) #[] cs.toArray) w := by
 intro a ha dst pos aft g
 have hm : caps.map a.eval = cs.toArray := by rw [← Array.toList_inj]; simp [ha.evs hx]
 simp [execOp, Instr.makeFunc, hm]
theorem dd {x : Operand} {i : FuncId} {args : Array Operand} {ats : Array TypeId} {vs cs : List Value} {R : Value → World → Prop} (hf : f.ev x = some (.func (.func i) #[] cs.toArray)) (hx : f.evs args.toList = some vs) (hc : Rets P i (vs ++ cs) w R) :
   Does P n f w (.call { callee := .value x, args := args, argTypes := ats }) ty R := by
 intro a ha dst pos aft g K Q hK
 have hm : args.map a.eval = vs.toArray := by rw [← Array.toList_inj]; simp [ha.evs hx]
 have hr : (execOp a.eval ⟨dst, .call { callee := .value x, args := args, argTypes := ats }, ty, pos, aft, g⟩).run P w = .ok (.enter i (vs ++ cs).toArray) w := by
   simp [execOp, resolve, Deferred.ofValue, ha.ev hf, invoke, hm, fA hc.ok]
 unfold Oper.wp
 rw [hr]
 exact Calls.mono hc.calls fun e w' ⟨v, he, hv⟩ => by subst he; exact hK v w' hv
theorem g_ta {x : Operand} {xt t : TypeId} {v : Value} {k : IntKind} (ht : P.underlying t = some (.int k)) (hx : f.ev x = some (.iface t v)) : Gives P n f w (.typeAssert x xt t false) ty v w := by
 intro a ha dst pos aft g
 simp [execOp, Instr.typeAssert, run_underlying ht, ha.ev hx]
theorem g_mki {x : Operand} {t : TypeId} {v : Value} {k : IntKind} (ht : P.underlying t = some (.int k)) (hx : f.ev x = some v) : Gives P n f w (.makeInterface t x) ty (.iface t v) w := by
 intro a ha dst pos aft g
 simp [execOp, Instr.makeInterface, run_underlying ht, ha.ev hx]
theorem g_ineT {x : Operand} {t u u' : TypeId} {v : Value} (ht : P.underlying t = some (.interface (P.methodsAt t))) (hx : f.ev x = some (.iface u v)) : Gives P n f w (.binOp .neq t x (.const .nilIface) u') ty (.bool true) w :=
 bx hx rfl (fun x y => by simp [eqGuard]) (run_neq_held_nil w t u v ht)
theorem g_ineF {x : Operand} {t u' : TypeId} (ht : P.underlying t = some (.interface (P.methodsAt t))) (hx : f.ev x = some .nilIface) : Gives P n f w (.binOp .neq t x (.const .nilIface) u') ty (.bool false) w := by
 intro a ha dst pos aft g
 have h1 : (eqGuard .neq t x (.const .nilIface) .nilIface .nilIface).run P w = .ok () w := by cases x <;> simp [eqGuard]
 have hy : a.eval (.const .nilIface) = .nilIface := rfl
 simp [execOp, ha.ev hx, hy, h1, run_neq_nil_nil w t ht]
end
end Go.Eng
namespace Go.Eng
open Go Go.ChangeShapes Go.WideShapes Go.ChangeAt Go.RowKit
section
variable {H : Type} {enc : TypeId × Value → H} {P : Program} {w : World} {base : Nat} {held : Bool}
def Small (P : Program) (t : TypeId) (d : DataW H) : Prop := ∀ n ∈ d.weights P t, n ≤ reachBytes
theorem it {ts : List TypeId} {ds : List (DataW H)} (h : (DataW.weightsEach P ts ds).all (· ≤ reachBytes) = true) {j : Nat} {t : TypeId} {d : DataW H} (ht : ts[j]? = some t) (hd : ds[j]? = some d) : Small P t d := by
  intro n hn
  have := List.all_eq_true.1 h n (DataW.weights_mem_each ht hd n hn)
  simpa using this
theorem jr {t : TypeId} {fs : Array Field} {parts : List (DataW H)} (hu : P.underlying t = some (.struct fs)) (h : Small P t (.agg parts)) {i : Nat} {f : Field} {d : DataW H} (hf : fs[i]? = some f) (hd : parts[i]? = some d) : Small P f.type d := by
 intro n hn
 refine h n ?_
 simp only [DataW.weights, hu]
 exact DataW.weights_mem_each (j := i) (by simp [hf]) hd n hn
theorem fC {e : TypeId} : ∀ {ds : List (DataW H)} {i : Nat} {d : DataW H}, ds[i]? = some d → ∀ n ∈ d.weights P e, n ∈ DataW.weightsAll P e ds
 | [], i, d, h, _, _ => by simp at h
 | x :: r, 0, d, h, n, hn => by
   simp at h; subst h
   simp only [DataW.weightsAll, List.mem_append]; exact .inl hn
 | x :: r, i + 1, d, h, n, hn => by
   simp at h
   simp only [DataW.weightsAll, List.mem_append]; exact .inr (fC h n hn)
theorem km {t e : TypeId} {elems spare : List (DataW H)} (hu : P.underlying t = some (.slice e)) (h : Small P t (.slice elems spare)) {i : Nat} {d : DataW H} (hd : elems[i]? = some d) : Small P e d := by
 intro n hn
 refine h n ?_
 simp only [DataW.weights, hu, List.mem_cons, List.mem_append]
 exact .inr (.inl (fC hd n hn))
theorem is {t e : TypeId} {elems spare : List (DataW H)} (hu : P.underlying t = some (.slice e)) (h : Small P t (.slice elems spare)) : (elems.length + spare.length) * P.bytesOf e ≤ reachBytes := by
 refine h _ ?_
 simp [DataW.weights, hu]
theorem bT {t e : TypeId} {fuel : Nat} {cs : List Value} {y : DataW H × List MemPlace} (ht : P.underlying t = some (.slice e)) (he : P.underlying e = some (.int .u8)) (hc : P.cellsOf e = 1) (hb : P.bytesOf e = 1)
   (h : DataW.trod enc P w base (fun _ => true) held fuel t cs = some y) (hs : Small P t y.1) : ∃ v xs, cs = [v] ∧ RdB w v xs ∧ xs.length ≤ 140737488351232 := by
 rcases open_ints ht he hc h with ⟨rfl, rfl⟩ | ⟨a, len, cap, zs, rfl, _, hl, hm, hz, hy, hcell, hwz⟩
 · exact ⟨_, [], rfl, Rd.nil _ _, by decide⟩
 · simp only [if_true] at hz
   have hr : reachBytes ≤ 140737488351232 := by decide
   rw [hy] at hs
   have h9 := is ht hs
   rw [hb] at h9
   simp only [lits, List.length_map, List.length_take, List.length_drop] at h9
   have hbv : bv ((zs.take len).map fun n => UInt8.ofNat n.toNat) = (zs.take len).map fun n => Value.int .u8 n := by
     simp only [bv, List.map_map]
     apply List.map_congr_left
     intro n hn
     have h1 := hwz n (List.mem_of_mem_take hn)
     have e1 : IntKind.u8.min = 0 := by decide
     have e2 : IntKind.u8.max = 255 := by decide
     simp only [Lit.wf, e1, e2, Bool.and_eq_true, decide_eq_true_eq] at h1
     simp only [Function.comp, UInt8.toNat_ofNat']
     congr 1; omega
   refine ⟨_, (zs.take len).map fun n => UInt8.ofNat n.toNat, rfl, ⟨some a, cap, ?_, ?_, hm, by simp, (fun h => by cases h), ?_⟩, by simp only [List.length_map, List.length_take]; omega⟩
   · congr 1; simp only [List.length_map, List.length_take]; omega
   · simp only [List.length_map, List.length_take]; omega
   · intro a' ha
     cases ha
     rw [hbv]
     intro j u hj
     rw [List.getElem?_map, List.getElem?_take] at hj
     by_cases hjl : j < len
     · rw [if_pos hjl] at hj
       have hjz : j < zs.length := by omega
       rw [List.getElem?_eq_getElem hjz] at hj
       simp only [Option.map_some, Option.some.injEq] at hj
       rw [hcell j hjz, ← hj, List.getD_eq_getElem?_getD, List.getElem?_eq_getElem hjz]; rfl
     · rw [if_neg hjl] at hj; cases hj
theorem fy {t : TypeId} {k : IntKind} {fuel : Nat} {cs : List Value} {y : DataW H × List MemPlace} (ht : P.underlying t = some (.int k))
   (h : DataW.trod enc P w base (fun _ => true) held fuel t cs = some y) : ∃ n, cs = [.int k n] ∧ (Lit.int k n).wf = true := by
 obtain ⟨m, h1, _, h3⟩ := DataW.trod_int ht h
 exact ⟨m, h1, h3⟩
theorem dC {t : TypeId} {fs : Array Field} {fuel : Nat} {cs : List Value} {y : DataW H × List MemPlace} (ht : P.underlying t = some (.struct fs)) (h : DataW.trod enc P w base (fun _ => true) held fuel t cs = some y) (hs : Small P t y.1) :
    cs.length = P.cellsOf t ∧ ∃ n, ∀ (i : Nat) (f : Field), fs[i]? = some f → ∃ z : DataW H × List MemPlace, DataW.trod enc P w base (fun _ => true) held n f.type ((cs.drop f.offset).take (P.cellsOf f.type)) = some z ∧ Small P f.type z.1 := by
  obtain ⟨xs, n, _, hy, hl, hlen, hf⟩ := DataW.trod_struct ht h
  refine ⟨hl, n, fun i f hi => ?_⟩
  have hlt : i < xs.length := by
    rw [hlen]; exact (Array.getElem?_eq_some_iff.1 hi).1
  refine ⟨xs[i], by rw [hf i f hi, List.getElem?_eq_getElem hlt], ?_⟩
  rw [hy] at hs
  exact jr ht hs hi (by simp [List.getElem?_eq_getElem hlt])
theorem iA {t : TypeId} {v : Value} {d : DataW H} {ps : List MemPlace} {sp : Nat → Bool} (h : DataW.Trod enc P w base sp held t v d ps) : ∀ x ∈ ps, x.block < w.heap.size := by
 obtain ⟨m, hm⟩ := h; exact DataW.trod_lt m _ _ _ hm
end
end Go.Eng
namespace Go.Proofs.Ytonchmcppekldaa.W
open Go Go.Eng Go.Byt
def gave (e : Int) : List PanicEntry := [{ v := .iface 36 (.int .i64 e), recovered := false }]
theorem meths : Try.prog.underlying 20 = some (.interface (Try.prog.methodsAt 20)) := by kernel_rfl
theorem ez (b : Bool) (e : Int) (w : World) : Endz Try.prog 97 [.bool b, .int .i64 e] w (fun r w' => r = orDies b (gave e) ∧ Keep [] w w') := by
  refine ey Try.func97 rfl (by decide) Try.ntmps97 rfl (fun fin hfin hpan => ?_)
  refine a5 (aZ (a7 (bC rfl) rfl (a7 (cd rfl) rfl (a6 ?_))))
  cases b with
  | true => exact dS rfl rfl (aj (dF hfin rfl ⟨rfl, Keep.refl _ _⟩))
  | false =>
    refine jo rfl rfl (aZ (a7 (bC rfl) rfl (a7 (g_mki Try.underlying36 rfl) rfl (nR rfl (fun a ha => ?_)))))
    exact hpan _ a w ha.defers ⟨rfl, Keep.refl _ _⟩
theorem fI (v : Value) (xs : List UInt8) (n : Int) (w : World) (hv : RdB w v xs) : Endz Try.prog 96 [v, .int .i64 n] w (fun r w' => r = orDies (decide ((xs.length : Int) = n)) (gave 1) ∧ Keep [] w w') := by
  refine ey Try.func96 rfl (by decide) Try.ntmps96 rfl (fun fin hfin hpan => ?_)
  refine aZ (a7 (bC rfl) rfl (a7 (ay aA rfl hv) rfl (a7 (bC rfl) rfl (a7 (bE rfl rfl) rfl (cw rfl (ez _ _ _) rfl (fun hb w' k => ?_) (fun hb w' k a ha => ?_))))))
  · exact a6 (dF hfin rfl ⟨by rw [hb]; rfl, k⟩)
  · exact hpan _ a w' ha.defers ⟨by rw [hb]; rfl, k⟩
theorem gk (p : Nat) (w : World) : CallsD Try.prog 65 [(.pointer (some ⟨p, 0, none⟩) : Value)].toArray .returning w (fun r u' w' => (∃ v, r = .returned v) ∧ u' = .returning ∧ w' = w) := by
  refine i8 Try.func65 rfl Try.ntmps65 rfl rfl rfl (fun c₀ cs h => nI h) (fun fin hfin => ?_)
  refine a5 (aZ (a7 (bC rfl) rfl (a7 (g_ineF meths rfl) rfl (a6 ?_))))
  exact dS rfl rfl (aj (dF (R := fun v w' => (∃ x, Ending.returned v = .returned x) ∧ FrameMode.returning = .returning ∧ w' = w) hfin rfl ⟨⟨_, rfl⟩, rfl, rfl⟩))
theorem gj (p : Nat) (i e : Int) (w : World) (hb : Bk w p 36 [.int .i64 i]) : CallsD Try.prog 65 [(.pointer (some ⟨p, 0, none⟩) : Value)].toArray (.panicking (gave e)) w
   (fun r u' w' => (∃ v, r = .returned v) ∧ u' = .panicking [{ v := .iface 36 (.int .i64 e), recovered := true }] ∧ Bk w' p 36 [.int .i64 e] ∧ Keep [p] w w') := by
 refine i8 Try.func65 rfl Try.ntmps65 rfl rfl rfl (fun c₀ cs h => nH h) (fun fin hfin => ?_)
 refine a5 (aZ (a7 (bC rfl) rfl (a7 (g_ineT meths rfl) rfl (a6 ?_))))
 refine jo rfl rfl (aZ (a7 (bC rfl) rfl (a7 (bC rfl) rfl (a7 (g_ta Try.underlying36 rfl) rfl (a7 (ao rfl) rfl ?_)))))
 refine an (bV cX rfl rfl rfl hb rfl) ?_
 rintro _ w' ⟨h1, k1, _⟩
 exact a6 (dF (R := fun v w' => (∃ x, Ending.returned v = .returned x) ∧ FrameMode.panicking [{ v := .iface 36 (.int .i64 e), recovered := true }] = .panicking [{ v := .iface 36 (.int .i64 e), recovered := true }] ∧ Bk w' p 36 [.int .i64 e] ∧ Keep [p] w w') hfin rfl ⟨⟨_, rfl⟩, rfl, h1, k1⟩)
theorem fY : CallOk Try.prog 65 := ⟨Try.f65, Try.func65, rfl, by decide⟩
end Go.Proofs.Ytonchmcppekldaa.W
namespace Go.Eng
open Go Go.Byt
structure Lf where
  enc : List UInt8
  sig : List UInt8
  name : List UInt8
  src : Int
  hash : List UInt8
  sg : List UInt8
def leafOk (l : Lf) : Bool := decide ((l.enc.length : Int) = 32) && decide ((l.sig.length : Int) = 32) && decide ((l.sg.length : Int) = 64) && (decide (1 ≤ l.name.length ∧ l.name.length ≤ 64 ∧ 1 ≤ l.src ∧ l.src ≤ 3)) && decide (l.hash.length = 0 ∨ (l.hash.length = 32 ∧ l.src = 3))
theorem cF {l : Lf} : leafOk l = true ↔ l.enc.length = 32 ∧ l.sig.length = 32 ∧ l.sg.length = 64 ∧ (1 ≤ l.name.length ∧ l.name.length ≤ 64 ∧ 1 ≤ l.src ∧ l.src ≤ 3) ∧ (l.hash.length = 0 ∨ (l.hash.length = 32 ∧ l.src = 3)) := by
 unfold leafOk
 simp only [Bool.and_eq_true, decide_eq_true_eq, and_assoc]
 constructor
 · rintro ⟨h1, h2, h3, h4⟩; exact ⟨by omega, by omega, by omega, h4⟩
 · rintro ⟨h1, h2, h3, h4⟩; exact ⟨by omega, by omega, by omega, h4⟩
def leafBare (l : Lf) : List UInt8 := vec l.enc ++ vec l.sig ++ vec l.name ++ be l.src 1 ++ (if l.src = 3 then vec l.hash else [])
def leafB (l : Lf) : List UInt8 := leafBare l ++ vec l.sg
theorem io (ls : List (List UInt8)) : (vecsB ls).length ≤ (vecs ls).length := by
 unfold vecsB; split
 · exact Nat.le_refl _
 · exact Nat.zero_le _
theorem jg (ls : List (List UInt8)) (m : Nat) (h : ∀ x ∈ ls, x.length ≤ m) : (vecs ls).length ≤ ls.length * (m + 4) := by
 induction ls with
 | nil => simp [vecs]
 | cons x r ih =>
   have h1 := ih (fun y hy => h y (List.mem_cons_of_mem _ hy))
   have h2 := av x.length
   have h3 := h x List.mem_cons_self
   simp only [vecs, List.flatMap_cons, List.length_append, vec, List.length_cons] at *
   rw [Nat.succ_mul]
   omega
theorem ji (ls : List (List UInt8)) (h : ∀ x ∈ ls, x.length ≤ 65536) : vecsB ls = ls.flatMap vec := by unfold vecsB; rw [if_pos h]; rfl
theorem fv {a : List UInt8} (h : a.length ≤ 64) : vecsB [a] = vec a ∧ (vecsB [a]).length ≤ 68 := by
 have e := ji [a] (by intro x hx; rw [List.mem_singleton] at hx; subst hx; omega)
 refine ⟨by rw [e]; simp, ?_⟩
 have := jg [a] 64 (by intro x hx; rw [List.mem_singleton] at hx; subst hx; exact h)
 exact Nat.le_trans (io _) this
theorem vecsB_3 {a b c : List UInt8} (ha : a.length ≤ 64) (hb : b.length ≤ 64) (hc : c.length ≤ 64) : vecsB [a, b, c] = vec a ++ vec b ++ vec c ∧ (vecsB [a, b, c]).length ≤ 204 := by
 have e := ji [a, b, c] (by intro x hx; simp only [List.mem_cons, List.not_mem_nil, or_false] at hx; rcases hx with rfl | rfl | rfl <;> omega)
 refine ⟨by rw [e]; simp, ?_⟩
 have := jg [a, b, c] 64 (by intro x hx; simp only [List.mem_cons, List.not_mem_nil, or_false] at hx; rcases hx with rfl | rfl | rfl <;> omega)
 exact Nat.le_trans (io _) this
theorem lM {n : Int} (h : 0 ≤ n ∧ n < 256) : numB 8 n 1 = be n 1 := by
 unfold numB numE
 have : n / 2 ^ (8 : Int).toNat = 0 := by
   have e : (2 : Int) ^ (8 : Int).toNat = 256 := rfl
   rw [e]; omega
 rw [if_pos]
 · rfl
 · rw [if_neg (by decide), if_neg (by omega)]
theorem cZ {l : Lf} (h : leafOk l = true) : l.enc.length ≤ 64 ∧ l.sig.length ≤ 64 ∧ l.name.length ≤ 64 ∧ l.hash.length ≤ 64 ∧ l.sg.length ≤ 64 ∧ 0 ≤ l.src ∧ l.src < 256 := by
 have := cF.1 h; omega
theorem da {l : Lf} (h : leafOk l = true) : (leafBare l).length ≤ 300 := by
 obtain ⟨h1, h2, h3, h4, h5, _⟩ := cZ h
 have e1 := av l.enc.length; have e2 := av l.sig.length; have e3 := av l.name.length; have e4 := av l.hash.length
 unfold leafBare vec
 split <;> simp only [List.length_append, bi, List.length_nil] <;> omega
theorem df {l : Lf} (h : leafOk l = true) : (leafB l).length ≤ 400 := by
 obtain ⟨h1, h2, h3, h4, h5, _⟩ := cZ h
 have := da h; have e1 := av l.sg.length
 unfold leafB vec
 simp only [List.length_append]; omega
structure Pk where
  init : List UInt8
  leaf : Lf
  sg : List UInt8
def pkOk (p : Pk) : Bool := decide ((p.init.length : Int) = 32) && leafOk p.leaf && decide (p.leaf.src = 1) && decide ((p.sg.length : Int) = 64)
theorem dI {p : Pk} : pkOk p = true ↔ p.init.length = 32 ∧ leafOk p.leaf = true ∧ p.leaf.src = 1 ∧ p.sg.length = 64 := by
 unfold pkOk
 simp only [Bool.and_eq_true, decide_eq_true_eq, and_assoc]
 constructor
 · rintro ⟨h1, h2, h3, h4⟩; exact ⟨by omega, h2, h3, by omega⟩
 · rintro ⟨h1, h2, h3, h4⟩; exact ⟨by omega, h2, h3, by omega⟩
def pkOffer (p : Pk) : List UInt8 := [0, 1, 0, 1] ++ vec p.init ++ leafB p.leaf
def pkB (p : Pk) : List UInt8 := pkOffer p ++ vec p.sg
theorem dj {p : Pk} (h : pkOk p = true) : p.init.length ≤ 64 ∧ p.sg.length ≤ 64 ∧ leafOk p.leaf = true := by
 obtain ⟨h1, h2, _, h4⟩ := dI.1 h
 exact ⟨by omega, by omega, h2⟩
theorem fM {p : Pk} (h : pkOk p = true) : (pkOffer p).length ≤ 600 := by
 obtain ⟨h1, h2, h3⟩ := dj h
 have := df h3; have e1 := av p.init.length
 unfold pkOffer vec
 simp only [List.length_append, List.length_cons, List.length_nil]; omega
theorem jZ {p : Pk} (h : pkOk p = true) : (pkB p).length ≤ 700 := by
 obtain ⟨h1, h2, h3⟩ := dj h
 have := fM h; have e1 := av p.sg.length
 unfold pkB vec
 simp only [List.length_append]; omega
def rLeafB (rest : List UInt8) (e : Int) := rVec (rVec rest e).2.1 (rVec rest e).2.2
def rLeafC (rest : List UInt8) (e : Int) := rVec (rLeafB rest e).2.1 (rLeafB rest e).2.2
def rLeafD (rest : List UInt8) (e : Int) := rNum 8 (rLeafC rest e).2.1 (rLeafC rest e).2.2 1
def rLeafH (rest : List UInt8) (e : Int) : List UInt8 × List UInt8 × Int := if (rLeafD rest e).1 = 3 then rVec (rLeafD rest e).2.1 (rLeafD rest e).2.2 else ([], (rLeafD rest e).2)
def rLeafG (rest : List UInt8) (e : Int) := rVec (rLeafH rest e).2.1 (rLeafH rest e).2.2
def rLeaf (rest : List UInt8) (e : Int) : Lf × List UInt8 × Int := (⟨(rVec rest e).1, (rLeafB rest e).1, (rLeafC rest e).1, (rLeafD rest e).1, (rLeafH rest e).1, (rLeafG rest e).1⟩, (rLeafG rest e).2)
theorem di {rest : List UInt8} {e : Int} (h : (rLeafD rest e).1 = 3) : rLeafH rest e = rVec (rLeafD rest e).2.1 (rLeafD rest e).2.2 := if_pos h
theorem dh {rest : List UInt8} {e : Int} (h : ¬ (rLeafD rest e).1 = 3) : rLeafH rest e = ([], (rLeafD rest e).2) := if_neg h
theorem fU (rest : List UInt8) (e : Int) : (rLeafB rest e).2.1.length ≤ rest.length ∧ (rLeafC rest e).2.1.length ≤ rest.length ∧ (rLeafD rest e).2.1.length ≤ rest.length ∧ (rLeafH rest e).2.1.length ≤ rest.length ∧ (rLeafG rest e).2.1.length ≤ rest.length := by
 have h1 := bS rest e
 have h2 : (rLeafB rest e).2.1.length ≤ _ := bS (rVec rest e).2.1 (rVec rest e).2.2
 have h3 : (rLeafC rest e).2.1.length ≤ _ := bS (rLeafB rest e).2.1 (rLeafB rest e).2.2
 have h4 : (rLeafD rest e).2.1.length ≤ _ := dH 8 (rLeafC rest e).2.1 (rLeafC rest e).2.2 1
 have h5 : (rLeafH rest e).2.1.length ≤ (rLeafD rest e).2.1.length := by
   by_cases h : (rLeafD rest e).1 = 3
   · rw [di h]; exact bS _ _
   · rw [dh h]; exact Nat.le_refl _
 have h6 : (rLeafG rest e).2.1.length ≤ _ := bS (rLeafH rest e).2.1 (rLeafH rest e).2.2
 omega
def bf : Lf := ⟨[], [], [], 0, [], []⟩
def glOk (c : List UInt8) : Bool := decide (rEnd (rLeaf c 0).2.1 (rLeaf c 0).2.2 = 0) && leafOk (rLeaf c 0).1 && decide (leafB (rLeaf c 0).1 = c)
def glR (c : List UInt8) : Lf := bif glOk c then (rLeaf c 0).1 else bf
def glE (c : List UInt8) : Int := bif glOk c then 0 else 21
def gpH (c : List UInt8) := rNum 32 c 0 4
def gpI (c : List UInt8) := rVec (gpH c).2.1 (gpH c).2.2
def gpL (c : List UInt8) := rLeaf (gpI c).2.1 (gpI c).2.2
def gpG (c : List UInt8) := rVec (gpL c).2.1 (gpL c).2.2
def gpP (c : List UInt8) : Pk := ⟨(gpI c).1, (gpL c).1, (gpG c).1⟩
theorem gp_len (c : List UInt8) : (gpH c).2.1.length ≤ c.length ∧ (gpI c).2.1.length ≤ c.length ∧ (gpL c).2.1.length ≤ c.length ∧ (gpG c).2.1.length ≤ c.length := by
 have h1 : (gpH c).2.1.length ≤ _ := dH 32 c 0 4
 have h2 : (gpI c).2.1.length ≤ _ := bS (gpH c).2.1 (gpH c).2.2
 have h3 : (gpL c).2.1.length ≤ (gpI c).2.1.length := (fU (gpI c).2.1 (gpI c).2.2).2.2.2.2
 have h4 : (gpG c).2.1.length ≤ _ := bS (gpL c).2.1 (gpL c).2.2
 omega
def bg : Pk := ⟨[], bf, []⟩
def gpOk (c : List UInt8) : Bool := decide (rEnd (gpG c).2.1 (gpG c).2.2 = 0) && pkOk (gpP c) && decide (pkB (gpP c) = c)
def gpR (c : List UInt8) : Pk := bif gpOk c then gpP c else bg
def gpE (c : List UInt8) : Int := bif gpOk c then 0 else 21
end Go.Eng
namespace Go.Proofs.Ytonchmcppekldaa.W
open Go Go.Eng Go.Byt
theorem jA (e s n h g : Value) (l : Lf) (w : World) (he : RdB w e l.enc) (hs : RdB w s l.sig) (hn : RdB w n l.name) (hh : RdB w h l.hash) (hg : RdB w g l.sg) : Endz Try.prog 69 [.agg [e, s, n, .int .i64 l.src, h, g].toArray] w (fun r w' => r = orDies (leafOk l) (gave 1) ∧ Keep [] w w') := by
 have hB : Keep [] w w := Keep.refl _ _
 refine ey Try.func69 rfl (by decide) Try.ntmps69 rfl (fun fin hfin hpan => ?_)
 refine a5 (aZ (ah (bc (cs := [e, s, n, .int .i64 l.src, h, g]) rfl rfl) rfl ?_))
 rintro _ w1 ⟨b1, rfl, eb1, hb1, k1, z1⟩
 have ge_b1 : w.heap.size ≤ b1 := by have := hB.size; omega
 replace hB := hB.trans k1
 clear eb1 z1
 refine a6 (a5 (aZ (a7 (ak aE rfl am (by decide) rfl) rfl ?_)))
 refine a7 (ae aw rfl hb1 rfl) rfl ?_
 refine cw rfl (fI _ l.enc 32 _ (by first | assumption | exact Own.rd ‹_› | exact Rd.oC ‹_› hB | exact Own.rd (Own.oC ‹_› hB))) rfl (fun hq1 w2 k2 => ?_) (fun hq1 w2 k2 a ha => hpan _ a w2 ha.defers ⟨by rw [show leafOk l = false from by cases hE : leafOk l with | false => rfl | true => (rw [cF] at hE; exfalso; simp only [Bool.and_eq_false_iff, Bool.or_eq_false_iff, decide_eq_false_iff_not] at hq1; omega)]; rfl, hB.trans k2⟩)
 replace hb1 := hb1.oC k2
 replace hB := hB.trans k2
 refine a6 (a5 (aZ (a7 (ak aE rfl am (by decide) rfl) rfl ?_)))
 refine a7 (ae aw rfl hb1 rfl) rfl ?_
 refine cw rfl (fI _ l.sig 32 _ (by first | assumption | exact Own.rd ‹_› | exact Rd.oC ‹_› hB | exact Own.rd (Own.oC ‹_› hB))) rfl (fun hq2 w3 k3 => ?_) (fun hq2 w3 k3 a ha => hpan _ a w3 ha.defers ⟨by rw [show leafOk l = false from by cases hE : leafOk l with | false => rfl | true => (rw [cF] at hE; exfalso; simp only [Bool.and_eq_false_iff, Bool.or_eq_false_iff, decide_eq_false_iff_not] at hq2; omega)]; rfl, hB.trans k3⟩)
 replace hb1 := hb1.oC k3
 replace hB := hB.trans k3
 refine a6 (a5 (aZ (a7 (ak aE rfl am (by decide) rfl) rfl ?_)))
 refine a7 (ae aw rfl hb1 rfl) rfl ?_
 refine cw rfl (fI _ l.sg 64 _ (by first | assumption | exact Own.rd ‹_› | exact Rd.oC ‹_› hB | exact Own.rd (Own.oC ‹_› hB))) rfl (fun hq3 w4 k4 => ?_) (fun hq3 w4 k4 a ha => hpan _ a w4 ha.defers ⟨by rw [show leafOk l = false from by cases hE : leafOk l with | false => rfl | true => (rw [cF] at hE; exfalso; simp only [Bool.and_eq_false_iff, Bool.or_eq_false_iff, decide_eq_false_iff_not] at hq3; omega)]; rfl, hB.trans k4⟩)
 replace hb1 := hb1.oC k4
 replace hB := hB.trans k4
 refine a6 (af [(1, _)] ⟨rfl, trivial⟩ ?_)
 refine a5 (aZ (a7 (ak aE rfl am (by decide) rfl) rfl ?_))
 refine a7 (ae aw rfl hb1 rfl) rfl ?_
 refine a7 (ay aA rfl (by first | assumption | exact Own.rd ‹_› | exact Rd.oC ‹_› hB | exact Own.rd (Own.oC ‹_› hB))) rfl ?_
 refine a7 (gW rfl rfl) rfl ?_
 refine a7 (bC rfl) rfl (aq 15 true rfl (fun c1 hgc1 => ?_))
 refine a9 [(1, _)] (ad rfl rfl rfl hgc1) ⟨bB rfl, trivial⟩ (fun hw1 => ak aE rfl am (by decide) rfl) rfl ?_
 refine a9 [(16, _)] (ad rfl rfl rfl hgc1) ⟨ag rfl, trivial⟩ (fun hw2 => ae aw rfl hb1 rfl) rfl ?_
 refine a9 [(17, _)] (ad rfl rfl rfl hgc1) ⟨ag rfl, trivial⟩ (fun hw3 => ay aA rfl (by first | assumption | exact Own.rd ‹_› | exact Rd.oC ‹_› hB | exact Own.rd (Own.oC ‹_› hB))) rfl ?_
 refine a9 [(18, _)] (ad rfl rfl rfl hgc1) ⟨ag rfl, trivial⟩ (fun hw4 => g_le rfl rfl) rfl ?_
 refine a7 (bM rfl rfl hgc1) rfl ?_
 refine a7 (bC rfl) rfl (aq 21 true rfl (fun c2 hgc2 => ?_))
 refine a9 [(1, _)] (ad rfl rfl rfl hgc2) ⟨bB rfl, trivial⟩ (fun hw5 => ak aE rfl bh (by decide) rfl) rfl ?_
 refine a9 [(22, _)] (ad rfl rfl rfl hgc2) ⟨ag rfl, trivial⟩ (fun hw6 => ae cY rfl hb1 rfl) rfl ?_
 refine a9 [(23, _)] (ad rfl rfl rfl hgc2) ⟨ag rfl, trivial⟩ (fun hw7 => gW rfl rfl) rfl ?_
 refine a7 (bM rfl rfl hgc2) rfl ?_
 refine a7 (bC rfl) rfl (aq 26 true rfl (fun c3 hgc3 => ?_))
 refine a9 [(1, _)] (ad rfl rfl rfl hgc3) ⟨bB rfl, trivial⟩ (fun hw8 => ak aE rfl bh (by decide) rfl) rfl ?_
 refine a9 [(27, _)] (ad rfl rfl rfl hgc3) ⟨ag rfl, trivial⟩ (fun hw9 => ae cY rfl hb1 rfl) rfl ?_
 refine a9 [(28, _)] (ad rfl rfl rfl hgc3) ⟨ag rfl, trivial⟩ (fun hw10 => g_le rfl rfl) rfl ?_
 refine a7 (bM rfl rfl hgc3) rfl ?_
 refine cw rfl (ez _ 1 _) rfl (fun hq4 w5 k5 => ?_) (fun hq4 w5 k5 a ha => hpan _ a w5 ha.defers ⟨by rw [show leafOk l = false from by cases hE : leafOk l with | false => rfl | true => (rw [cF] at hE; exfalso; simp only [Bool.and_eq_false_iff, Bool.or_eq_false_iff, decide_eq_false_iff_not] at hq4; omega)]; rfl, hB.trans k5⟩)
 replace hb1 := hb1.oC k5
 replace hB := hB.trans k5
 refine a6 (af [(1, _)] ⟨rfl, trivial⟩ ?_)
 refine aZ (a7 (ak aE rfl am (by decide) rfl) rfl ?_)
 refine a7 (ae aw rfl hb1 rfl) rfl ?_
 refine a7 (ay aA rfl (by first | assumption | exact Own.rd ‹_› | exact Rd.oC ‹_› hB | exact Own.rd (Own.oC ‹_› hB))) rfl ?_
 refine a7 (bE rfl rfl) rfl ?_
 refine a7 (bC rfl) rfl (aq 36 false rfl (fun c4 hgc4 => ?_))
 refine a9 [(1, _)] (ad rfl rfl rfl hgc4) ⟨bB rfl, trivial⟩ (fun hw11 => ak aE rfl am (by decide) rfl) rfl ?_
 refine a9 [(37, _)] (ad rfl rfl rfl hgc4) ⟨ag rfl, trivial⟩ (fun hw12 => ae aw rfl hb1 rfl) rfl ?_
 refine a9 [(38, _)] (ad rfl rfl rfl hgc4) ⟨ag rfl, trivial⟩ (fun hw13 => ay aA rfl (by first | assumption | exact Own.rd ‹_› | exact Rd.oC ‹_› hB | exact Own.rd (Own.oC ‹_› hB))) rfl ?_
 refine a9 [(39, _)] (ad rfl rfl rfl hgc4) ⟨ag rfl, trivial⟩ (fun hw14 => bE rfl rfl) rfl ?_
 refine a9 [(40, _)] (ad rfl rfl rfl hgc4) ⟨ag rfl, trivial⟩ (fun hw15 => bC rfl) rfl ?_
 refine ci 41 true rfl (fun c5 hgc5 => ?_)
 refine a9 [(1, _)] (cE rfl rfl rfl hgc5) ⟨bB rfl, trivial⟩ (fun hw16 => ak aE rfl bh (by decide) rfl) rfl ?_
 refine a9 [(42, _)] (cE rfl rfl rfl hgc5) ⟨ag rfl, trivial⟩ (fun hw17 => ae cY rfl hb1 rfl) rfl ?_
 refine a9 [(43, _)] (cE rfl rfl rfl hgc5) ⟨ag rfl, trivial⟩ (fun hw18 => bE rfl rfl) rfl ?_
 refine cu (ad rfl rfl rfl hgc4) (ag rfl) rfl hgc5 rfl ?_
 refine a7 (bP rfl rfl hgc4) rfl ?_
 refine cw rfl (ez _ 1 _) rfl (fun hq5 w6 k6 => ?_) (fun hq5 w6 k6 a ha => hpan _ a w6 ha.defers ⟨by rw [show leafOk l = false from by cases hE : leafOk l with | false => rfl | true => (rw [cF] at hE; exfalso; simp only [Bool.and_eq_false_iff, Bool.or_eq_false_iff, decide_eq_false_iff_not] at hq5; omega)]; rfl, hB.trans k6⟩)
 replace hb1 := hb1.oC k6
 replace hB := hB.trans k6
 refine a6 (af [] trivial ?_)
 refine dF hfin Try.results69 ?_
 exact ⟨by rw [show leafOk l = true from cF.2 (by simp only [Bool.and_eq_true, Bool.or_eq_true, decide_eq_true_eq] at hq1 hq2 hq3 hq4 hq5; omega)]; rfl, hB⟩
theorem lB (i e s n h g gg : Value) (p : Pk) (w : World) (hi : RdB w i p.init) (he : RdB w e p.leaf.enc) (hs : RdB w s p.leaf.sig) (hn : RdB w n p.leaf.name) (hh : RdB w h p.leaf.hash) (hg : RdB w g p.leaf.sg) (hgg : RdB w gg p.sg) : Endz Try.prog 66 [.agg [i, e, s, n, .int .i64 p.leaf.src, h, g, gg].toArray] w (fun r w' => r = orDies (pkOk p) (gave 1) ∧ Keep [] w w') := by
 have hB : Keep [] w w := Keep.refl _ _
 refine ey Try.func66 rfl (by decide) Try.ntmps66 rfl (fun fin hfin hpan => ?_)
 refine a5 (aZ (ah (bc (cs := [i, e, s, n, .int .i64 p.leaf.src, h, g, gg]) rfl rfl) rfl ?_))
 rintro _ w1 ⟨b1, rfl, eb1, hb1, k1, z1⟩
 have ge_b1 : w.heap.size ≤ b1 := by have := hB.size; omega
 replace hB := hB.trans k1
 clear eb1 z1
 refine a6 (a5 (aZ (a7 (ak aL rfl am (by decide) rfl) rfl ?_)))
 refine a7 (ae aw rfl hb1 rfl) rfl ?_
 refine cw rfl (fI _ p.init 32 _ (by first | assumption | exact Own.rd ‹_› | exact Rd.oC ‹_› hB | exact Own.rd (Own.oC ‹_› hB))) rfl (fun hq1 w2 k2 => ?_) (fun hq1 w2 k2 a ha => hpan _ a w2 ha.defers ⟨by rw [show pkOk p = false from by cases hE : pkOk p with | false => rfl | true => (rw [dI] at hE; exfalso; obtain ⟨q1, q2, q3, q4⟩ := hE; first | (rw [q2] at hq1; cases hq1; done) | (simp only [Bool.and_eq_false_iff, Bool.or_eq_false_iff, decide_eq_false_iff_not] at hq1; omega))]; rfl, hB.trans k2⟩)
 replace hb1 := hb1.oC k2
 replace hB := hB.trans k2
 refine a6 (a5 (aZ (a7 (ak aL rfl bk (by decide) rfl) rfl ?_)))
 refine a7 (au (cs' := [_, _, _, _, _, _]) dt bk rfl hb1 rfl rfl) rfl ?_
 refine cw rfl (jA _ _ _ _ _ p.leaf _ (by first | assumption | exact Own.rd ‹_› | exact Rd.oC ‹_› hB | exact Own.rd (Own.oC ‹_› hB)) (by first | assumption | exact Own.rd ‹_› | exact Rd.oC ‹_› hB | exact Own.rd (Own.oC ‹_› hB)) (by first | assumption | exact Own.rd ‹_› | exact Rd.oC ‹_› hB | exact Own.rd (Own.oC ‹_› hB)) (by first | assumption | exact Own.rd ‹_› | exact Rd.oC ‹_› hB | exact Own.rd (Own.oC ‹_› hB)) (by first | assumption | exact Own.rd ‹_› | exact Rd.oC ‹_› hB | exact Own.rd (Own.oC ‹_› hB))) rfl (fun hq2 w3 k3 => ?_) (fun hq2 w3 k3 a ha => hpan _ a w3 ha.defers ⟨by rw [show pkOk p = false from by cases hE : pkOk p with | false => rfl | true => (rw [dI] at hE; exfalso; obtain ⟨q1, q2, q3, q4⟩ := hE; first | (rw [q2] at hq2; cases hq2; done) | (simp only [Bool.and_eq_false_iff, Bool.or_eq_false_iff, decide_eq_false_iff_not] at hq2; omega))]; rfl, hB.trans k3⟩)
 replace hb1 := hb1.oC k3
 replace hB := hB.trans k3
 refine a6 (a5 (aZ (a7 (ak aL rfl bk (by decide) rfl) rfl ?_)))
 refine a7 (ak aE rfl bh (by decide) rfl) rfl ?_
 refine a7 (ae cY rfl hb1 rfl) rfl ?_
 refine a7 (bE rfl rfl) rfl ?_
 refine cw rfl (ez _ 1 _) rfl (fun hq3 w4 k4 => ?_) (fun hq3 w4 k4 a ha => hpan _ a w4 ha.defers ⟨by rw [show pkOk p = false from by cases hE : pkOk p with | false => rfl | true => (rw [dI] at hE; exfalso; obtain ⟨q1, q2, q3, q4⟩ := hE; first | (rw [q2] at hq3; cases hq3; done) | (simp only [Bool.and_eq_false_iff, Bool.or_eq_false_iff, decide_eq_false_iff_not] at hq3; omega))]; rfl, hB.trans k4⟩)
 replace hb1 := hb1.oC k4
 replace hB := hB.trans k4
 refine a6 (af [(1, _)] ⟨rfl, trivial⟩ ?_)
 refine aZ (a7 (ak aL rfl am (by decide) rfl) rfl ?_)
 refine a7 (ae aw rfl hb1 rfl) rfl ?_
 refine cw rfl (fI _ p.sg 64 _ (by first | assumption | exact Own.rd ‹_› | exact Rd.oC ‹_› hB | exact Own.rd (Own.oC ‹_› hB))) rfl (fun hq4 w5 k5 => ?_) (fun hq4 w5 k5 a ha => hpan _ a w5 ha.defers ⟨by rw [show pkOk p = false from by cases hE : pkOk p with | false => rfl | true => (rw [dI] at hE; exfalso; obtain ⟨q1, q2, q3, q4⟩ := hE; first | (rw [q2] at hq4; cases hq4; done) | (simp only [Bool.and_eq_false_iff, Bool.or_eq_false_iff, decide_eq_false_iff_not] at hq4; omega))]; rfl, hB.trans k5⟩)
 replace hb1 := hb1.oC k5
 replace hB := hB.trans k5
 refine a6 (dF hfin Try.results66 ?_)
 exact ⟨by rw [show pkOk p = true from dI.2 ⟨by simp only [Bool.and_eq_true, Bool.or_eq_true, decide_eq_true_eq] at hq1; omega, hq2, by simp only [Bool.and_eq_true, Bool.or_eq_true, decide_eq_true_eq] at hq3; exact hq3, by simp only [Bool.and_eq_true, Bool.or_eq_true, decide_eq_true_eq] at hq4; omega⟩]; rfl, hB⟩
def Wr (lo : Nat) (w : World) (p q : Nat) (v : Value) (xs : List UInt8) : Prop := Bk w p 118 [.pointer (some ⟨q, 0, none⟩)] ∧ Bk w q 124 [v, .func (.func 98) #[] [.pointer (some ⟨p, 0, none⟩)].toArray, .func (.func 99) #[] [.pointer (some ⟨p, 0, none⟩)].toArray] ∧ OwnB w lo v xs ∧ (lo ≤ p ∧ lo ≤ q ∧ p ≠ q) ∧ ∀ x, x ∈ vblk v → x ≠ p ∧ x ≠ q
def WrTo (lo : Nat) (w w' : World) (p q : Nat) (v : Value) (xs : List UInt8) : Prop := ∃ v', Wr lo w' p q v' xs ∧ Keep (q :: vblk v) w w' ∧ ∀ x, x ∈ vblk v' → x ∈ vblk v ∨ w.heap.size ≤ x
theorem Wr.keep {lo : Nat} {w w' : World} {p q : Nat} {v : Value} {xs : List UInt8} (h : Wr lo w p q v xs) (k : Keep [] w w') : Wr lo w' p q v xs := ⟨h.1.oC k, h.2.1.oC k, h.2.2.1.oC k, h.2.2.2⟩
theorem f8 (w : World) : Rets Try.prog 67 [] w (fun r w' => ∃ p q, r = .pointer (some ⟨q, 0, none⟩) ∧ Wr w.heap.size w' p q (.slice none 0 0) [] ∧ Keep [] w w') := by
 have hB : Keep [] w w := Keep.refl _ _
 refine ai Try.func67 rfl (by decide) Try.ntmps67 rfl (fun fin _ hfin => a5 (aZ (oga rfl rfl (a6 (a5 (aZ (a7 (cA (idx := []) (xs := []) (vs := []) (css := []) (out := [_, _, _]) pl124 ty124 rfl rfl trivial rfl rfl) rfl (ah (bc (cs := [.slice none 0 0, .nilFunc, .nilFunc]) rfl rfl) rfl ?_))))))))
 rintro _ w1 ⟨b1, rfl, eb1, hb1, k1, z1⟩
 have ge_b1 : w.heap.size ≤ b1 := by have := hB.size; omega
 replace hB := hB.trans k1
 clear eb1 z1
 refine ah (bG ty118) rfl ?_
 rintro _ w2 ⟨b2, rfl, eb2, hb2, k2, z2⟩
 have ge_b2 : w.heap.size ≤ b2 := by have := hB.size; omega
 have ne_b1_b2 : b1 ≠ b2 := by have := hb1.lt; omega
 obtain ⟨hB, hb1⟩ := bX k2 hB hb1
 clear eb2 z2
 refine an (bV ty118 rfl rfl rfl hb2 rfl) ?_
 rintro _ w3 ⟨hb3, k3, z3⟩
 replace hb1 := hb1.keep k3 (nm ne_b1_b2)
 replace hB := hB.new k3 (nw ge_b2)
 clear z3
 replace hb3 : Bk w3 b2 _ [.pointer (some ⟨b1, 0, none⟩)] := hb3
 refine a6 (a5 (aZ (a7 (ae iD rfl hb3 rfl) rfl (a7 (g_mkf rfl) rfl (a7 (ao rfl) rfl (a7 (ak aO rfl gZ (by decide) rfl) rfl (an (bV gZ rfl rfl rfl hb1 rfl) ?_)))))))
 rintro _ w4 ⟨hb4, k4, z4⟩
 replace hb3 := hb3.keep k4 (nm (Ne.symm ne_b1_b2))
 replace hB := hB.new k4 (nw ge_b1)
 clear z4
 replace hb4 : Bk w4 b1 _ [.slice none 0 0, .func (.func 98) #[] [.pointer (some ⟨b2, 0, none⟩)].toArray, .nilFunc] := hb4
 refine a6 (a5 (aZ (a7 (ae iD rfl hb3 rfl) rfl (a7 (g_mkf rfl) rfl (a7 (ao rfl) rfl (a7 (ak aO rfl jm (by decide) rfl) rfl (an (bV jm rfl rfl rfl hb4 rfl) ?_)))))))
 rintro _ w5 ⟨hb5, k5, z5⟩
 replace hb3 := hb3.keep k5 (nm (Ne.symm ne_b1_b2))
 replace hB := hB.new k5 (nw ge_b1)
 clear z5
 replace hb5 : Bk w5 b1 _ [.slice none 0 0, .func (.func 98) #[] [.pointer (some ⟨b2, 0, none⟩)].toArray, .func (.func 99) #[] [.pointer (some ⟨b2, 0, none⟩)].toArray] := hb5
 refine a6 (af [(1, _)] ⟨rfl, trivial⟩ (a5 (aZ (a7 (ae iD rfl hb3 rfl) rfl (oga rfl rfl (a6 (al hfin Try.results67 rfl ?_)))))))
 exact ⟨b2, b1, rfl, ⟨hb3, hb5, a8 _ _ _ _, ⟨by omega, by omega, by omega⟩, fun x hx => (by cases hx)⟩, hB⟩
theorem eJ (w0 w : World) (hB : Keep [] w0 w) (p q : Nat) (v : Value) (xs : List UInt8) (l : Value) (ls : List (List UInt8)) (lo : Nat) (hl : SlL w lo 22 l ls) (hsum : (vecs ls).length ≤ 140737488355328 ∨ ls.length ≤ 1000) (hw : Wr w0.heap.size w p q v xs) (hlen : xs.length + (vecsB ls).length ≤ 140737488355328) : Rets Try.prog 98 [l, .pointer (some ⟨p, 0, none⟩)] w (fun r w' => r = .tuple #[] ∧ WrTo w0.heap.size w w' p q v (xs ++ (vecsB ls))) := by
  obtain ⟨hb90, hb91, o90, ⟨ge_p, ge_q, ne_p_q⟩, hvo⟩ := hw
  have ne_q_p := Ne.symm ne_p_q
  have gl_o90 := Nat.le_refl w0.heap.size
  have hK : Keep (q :: vblk v) w w := Keep.refl _ _
  have hlb : ∀ x, x ∈ vblk v → x ∈ vblk v ∨ w.heap.size ≤ x := fun x hx => .inl hx
  obtain ⟨us, h1, h2, h3⟩ := hl
  replace h3 := h3.rd
  rw [← h1] at h3
  refine ai Try.func98 rfl (by decide) Try.ntmps98 rfl (fun fin _ hfin => a5 (aZ (ogm rfl rfl (ah (ab (vs := [_]) rfl (eW _ us ls _ h3 h2 hsum)) rfl ?_))))
  rintro _ w1 ⟨v1, rfl, o1, k1⟩
  have gl_o1 := hB.size
  obtain ⟨hb90, hb91⟩ := cm k1 hb90 hb91
  replace o90 := o90.oC k1
  replace hB := hB.trans k1
  replace hK := hK.trans k1.weak
  refine ogm rfl rfl (a7 (bH (vs := [_, _]) rfl rfl) rfl (a7 (bH (vs := [_, _]) rfl rfl) rfl (oga rfl rfl (oga rfl rfl (a6 (ca 7 [0, 1, 2, 3, 4, 5, 6] [6] (vblk v) [] mixed [(1, _), (3, _)] ⟨rfl, rfl, trivial⟩ (by decide +kernel) (by decide) (by decide) ?_ (fun x hx => (o90.blk x hx).2) rfl (fun w2 k2 => ?_)))))))
  · intro q hq; cases hq
  obtain ⟨hb90, hb91⟩ := cm k2 hb90 hb91
  replace o90 := o90.oC k2
  replace o1 := o1.oC k2
  replace hB := hB.trans k2
  replace hK := hK.trans k2.weak
  refine ba 1 rfl rfl rfl rfl (fun W' kk => ae iD rfl (Bk.keep hb90 kk (fun hm => (hvo _ hm).1 rfl)) rfl) (ba 1 rfl rfl rfl rfl (fun W' kk => ae iD rfl (Bk.keep hb90 kk (fun hm => (hvo _ hm).1 rfl)) rfl) (ba 11 rfl rfl rfl rfl (fun W' kk => ao rfl) (ba 12 rfl rfl rfl rfl (fun W' kk => ak aO rfl am (by decide) rfl) (ba 13 rfl rfl rfl rfl (fun W' kk => ae aw rfl (Bk.keep hb91 kk (fun hm => (hvo _ hm).2 rfl)) rfl) (eC 3 rfl rfl rfl rfl rfl (fo [(14, _), (15, _)] rfl rfl ⟨rfl, rfl, trivial⟩ rfl (fun w4 k3 => ?_)))))))
  obtain ⟨hb90, hb91⟩ := cm k3 hb90 hb91
  replace o90 := o90.oC k3
  replace o1 := o1.oC k3
  replace hB := hB.trans k3
  replace hK := hK.trans k3.weak
  have ltp := hb90.lt
  have ltq := hb91.lt
  refine (bW aA cT rfl o90 rfl (show RdB _ _ (vecsB ls) from o1.rd) hlen hB.size).mono ?_
  rintro v2 w3 ⟨o2, k4, lb1, _⟩
  refine ⟨k4, (fun x hx => ⟨.inl (.inr rfl), (o2.blk x (o2.rd.cblk ▸ hx)).2⟩), ?_⟩
  replace hB := hB.new k4 (fun x hx => .inl (o90.blk x hx).1)
  have hKs := hK.size
  replace hK := hK.new k4 (fun x hx => .inr (List.mem_cons_of_mem _ hx))
  replace hlb : ∀ x, x ∈ vblk v2 → x ∈ vblk v ∨ w.heap.size ≤ x := fun x hx => (lb1 x hx).elim .inl (fun h => .inr (Nat.le_trans hKs h))
  replace hb90 := hb90.keep k4 (fun hm => (hvo _ hm).1 rfl)
  replace hb91 := hb91.keep k4 (fun hm => (hvo _ hm).2 rfl)
  replace hvo : ∀ x, x ∈ vblk v2 → x ≠ p ∧ x ≠ q := fun x hx => (lb1 x hx).elim (hvo x) (fun h => ⟨by omega, by omega⟩)
  have sb_q_o2 := fun x hx => (hvo x hx).2
  refine dW (fun w5 k5 => ?_)
  obtain ⟨hb90, hb91⟩ := cm k5 hb90 hb91
  replace o2 := o2.oC k5
  replace hB := hB.trans k5
  replace hK := hK.trans k5.weak
  refine ce (a7 (ao rfl) rfl (a7 (ak aO rfl am (by decide) rfl) rfl (an (bV am rfl rfl (Rd.one (by first | assumption | exact Own.rd (by assumption) | exact Rd.oC (by assumption) hB | exact Own.rd (Own.oC (by assumption) hB))) hb91 rfl) ?_)))
  rintro _ w6 ⟨hb1, k6, z1⟩
  replace hb90 := hb90.keep k6 (nm ne_p_q)
  replace o2 := o2.keep k6 (fun x hx hm => sb_q_o2 x hx (List.mem_singleton.1 hm))
  replace hB := hB.new k6 (nw ge_q)
  replace hK := hK.new k6 (fun x hx => .inr ((List.mem_singleton.1 hx) ▸ List.mem_cons_self))
  clear z1
  replace hb1 : Bk w6 q _ [v2, .func (.func 98) #[] [.pointer (some ⟨p, 0, none⟩)].toArray, .func (.func 99) #[] [.pointer (some ⟨p, 0, none⟩)].toArray] := hb1
  refine a6 (af [] trivial (dF hfin Try.results98 ?_))
  exact ⟨rfl, v2, ⟨hb90, hb1, (by unfold OwnB; rw [List.length_append]; exact o2), ⟨ge_p, ge_q, ne_p_q⟩, hvo⟩, hK, hlb⟩
theorem hC (w0 w : World) (hB : Keep [] w0 w) (p q : Nat) (v : Value) (xs : List UInt8) (n z : Int) (hz : z = 1 ∨ z = 2 ∨ z = 4 ∨ z = 8) (hw : Wr w0.heap.size w p q v xs) (hlen : xs.length + (numB (bitsOf z) n z).length ≤ 140737488355328) : Rets Try.prog 99 [.int .i64 n, .int .i64 z, .pointer (some ⟨p, 0, none⟩)] w (fun r w' => r = .tuple #[] ∧ WrTo w0.heap.size w w' p q v (xs ++ (numB (bitsOf z) n z))) := by
  obtain ⟨hb90, hb91, o90, ⟨ge_p, ge_q, ne_p_q⟩, hvo⟩ := hw
  have ne_q_p := Ne.symm ne_p_q
  have gl_o90 := Nat.le_refl w0.heap.size
  have hK : Keep (q :: vblk v) w w := Keep.refl _ _
  have hlb : ∀ x, x ∈ vblk v → x ∈ vblk v ∨ w.heap.size ≤ x := fun x hx => .inl hx
  refine ai Try.func99 rfl (by decide) Try.ntmps99 rfl (fun fin _ hfin => a5 (aZ (ogm rfl rfl (ogm rfl rfl (ah (ab (vs := [_, _]) rfl (iK n z hz _)) rfl ?_)))))
  rintro _ w1 ⟨v1, rfl, o1, k1⟩
  have gl_o1 := hB.size
  obtain ⟨hb90, hb91⟩ := cm k1 hb90 hb91
  replace o90 := o90.oC k1
  replace hB := hB.trans k1
  replace hK := hK.trans k1.weak
  refine ogm rfl rfl (a7 (bH (vs := [_, _]) rfl rfl) rfl (a7 (bH (vs := [_, _]) rfl rfl) rfl (oga rfl rfl (oga rfl rfl (a6 (ca 7 [0, 1, 2, 3, 4, 5, 6] [6] (vblk v) [] mixed [(2, _), (5, _)] ⟨rfl, rfl, trivial⟩ (by decide +kernel) (by decide) (by decide) ?_ (fun x hx => (o90.blk x hx).2) rfl (fun w2 k2 => ?_)))))))
  · intro q hq; cases hq
  obtain ⟨hb90, hb91⟩ := cm k2 hb90 hb91
  replace o90 := o90.oC k2
  replace o1 := o1.oC k2
  replace hB := hB.trans k2
  replace hK := hK.trans k2.weak
  refine ba 2 rfl rfl rfl rfl (fun W' kk => ae iD rfl (Bk.keep hb90 kk (fun hm => (hvo _ hm).1 rfl)) rfl) (ba 2 rfl rfl rfl rfl (fun W' kk => ae iD rfl (Bk.keep hb90 kk (fun hm => (hvo _ hm).1 rfl)) rfl) (ba 14 rfl rfl rfl rfl (fun W' kk => ao rfl) (ba 15 rfl rfl rfl rfl (fun W' kk => ak aO rfl am (by decide) rfl) (ba 16 rfl rfl rfl rfl (fun W' kk => ae aw rfl (Bk.keep hb91 kk (fun hm => (hvo _ hm).2 rfl)) rfl) (eC 5 rfl rfl rfl rfl rfl (fo [(17, _), (18, _)] rfl rfl ⟨rfl, rfl, trivial⟩ rfl (fun w4 k3 => ?_)))))))
  obtain ⟨hb90, hb91⟩ := cm k3 hb90 hb91
  replace o90 := o90.oC k3
  replace o1 := o1.oC k3
  replace hB := hB.trans k3
  replace hK := hK.trans k3.weak
  have ltp := hb90.lt
  have ltq := hb91.lt
  refine (bW aA cT rfl o90 rfl (show RdB _ _ (numB (bitsOf z) n z) from o1.rd) hlen hB.size).mono ?_
  rintro v2 w3 ⟨o2, k4, lb1, _⟩
  refine ⟨k4, (fun x hx => ⟨.inl (.inr rfl), (o2.blk x (o2.rd.cblk ▸ hx)).2⟩), ?_⟩
  replace hB := hB.new k4 (fun x hx => .inl (o90.blk x hx).1)
  have hKs := hK.size
  replace hK := hK.new k4 (fun x hx => .inr (List.mem_cons_of_mem _ hx))
  replace hlb : ∀ x, x ∈ vblk v2 → x ∈ vblk v ∨ w.heap.size ≤ x := fun x hx => (lb1 x hx).elim .inl (fun h => .inr (Nat.le_trans hKs h))
  replace hb90 := hb90.keep k4 (fun hm => (hvo _ hm).1 rfl)
  replace hb91 := hb91.keep k4 (fun hm => (hvo _ hm).2 rfl)
  replace hvo : ∀ x, x ∈ vblk v2 → x ≠ p ∧ x ≠ q := fun x hx => (lb1 x hx).elim (hvo x) (fun h => ⟨by omega, by omega⟩)
  have sb_q_o2 := fun x hx => (hvo x hx).2
  refine dW (fun w5 k5 => ?_)
  obtain ⟨hb90, hb91⟩ := cm k5 hb90 hb91
  replace o2 := o2.oC k5
  replace hB := hB.trans k5
  replace hK := hK.trans k5.weak
  refine ce (a7 (ao rfl) rfl (a7 (ak aO rfl am (by decide) rfl) rfl (an (bV am rfl rfl (Rd.one (by first | assumption | exact Own.rd (by assumption) | exact Rd.oC (by assumption) hB | exact Own.rd (Own.oC (by assumption) hB))) hb91 rfl) ?_)))
  rintro _ w6 ⟨hb1, k6, z1⟩
  replace hb90 := hb90.keep k6 (nm ne_p_q)
  replace o2 := o2.keep k6 (fun x hx hm => sb_q_o2 x hx (List.mem_singleton.1 hm))
  replace hB := hB.new k6 (nw ge_q)
  replace hK := hK.new k6 (fun x hx => .inr ((List.mem_singleton.1 hx) ▸ List.mem_cons_self))
  clear z1
  replace hb1 : Bk w6 q _ [v2, .func (.func 98) #[] [.pointer (some ⟨p, 0, none⟩)].toArray, .func (.func 99) #[] [.pointer (some ⟨p, 0, none⟩)].toArray] := hb1
  refine a6 (af [] trivial (dF hfin Try.results99 ?_))
  exact ⟨rfl, v2, ⟨hb90, hb1, (by unfold OwnB; rw [List.length_append]; exact o2), ⟨ge_p, ge_q, ne_p_q⟩, hvo⟩, hK, hlb⟩
theorem ik (w0 w : World) (hB : Keep [] w0 w) (p q : Nat) (v : Value) (xs : List UInt8) (e s n h g : Value) (l : Lf) (he : RdB w0 e l.enc) (hs : RdB w0 s l.sig) (hn : RdB w0 n l.name) (hh : RdB w0 h l.hash) (hg : RdB w0 g l.sg) (hok : leafOk l = true) (hw : Wr w0.heap.size w p q v xs) (hxs : xs.length ≤ 100000) : Rets Try.prog 70 [.pointer (some ⟨q, 0, none⟩), .agg [e, s, n, .int .i64 l.src, h, g].toArray] w (fun r w' => r = .tuple #[] ∧ WrTo w0.heap.size w w' p q v (xs ++ leafBare l)) := by
  obtain ⟨hb90, hb91, o90, ⟨ge_p, ge_q, ne_p_q⟩, hvo⟩ := hw
  have ne_q_p := Ne.symm ne_p_q
  have gl_o90 := Nat.le_refl w0.heap.size
  have hK : Keep (q :: vblk v) w w := Keep.refl _ _
  have hlb : ∀ x, x ∈ vblk v → x ∈ vblk v ∨ w.heap.size ≤ x := fun x hx => .inl hx
  obtain ⟨n1, n2, n3, n4, n5, n6, n7⟩ := cZ hok
  obtain ⟨e3, m3⟩ := vecsB_3 n1 n2 n3
  obtain ⟨e4, m4⟩ := fv n4
  have m5 : (numB (bitsOf 1) l.src 1).length ≤ 1 := by rw [show bitsOf 1 = 8 from rfl, lM ⟨n6, n7⟩, bi]; exact Nat.le_refl _
  refine ai Try.func70 rfl (by decide) Try.ntmps70 rfl (fun fin _ hfin => a5 (aZ ?_))
  have ltv := fun x hx => (o90.blk x hx).2
  refine ah (bc (cs := [e, s, n, .int .i64 l.src, h, g]) rfl rfl) rfl ?_
  rintro _ w1 ⟨b1, rfl, eb1, hb1, k1, z1⟩
  have ge_b1 : w.heap.size ≤ b1 := by have := hB.size; omega
  have ne_p_b1 : p ≠ b1 := by have := hb90.lt; omega
  have ne_q_b1 : q ≠ b1 := by have := hb91.lt; omega
  obtain ⟨hb90, hb91⟩ := cm k1 hb90 hb91
  replace o90 := o90.oC k1
  replace hB := hB.trans k1
  replace hK := hK.trans k1.weak
  clear eb1 z1
  have sv_b1 : ∀ x, x ∈ vblk v → x ≠ b1 := fun x hx => Nat.ne_of_lt (Nat.lt_of_lt_of_le (ltv x hx) (by omega))
  refine a6 (a5 (ca 11 [0, 1, 2, 3, 4, 5, 6, 7, 8, 9, 10] [10] [] [] mixed [(0, _), (3, _)] ⟨rfl, rfl, trivial⟩ (by decide +kernel) (by decide) (by decide) ?_ (fun x hx => by cases hx) rfl (fun w2 k2 => ?_)))
  · intro q hq; cases hq
  obtain ⟨hb90, hb91⟩ := cm k2 hb90 hb91
  replace o90 := o90.oC k2
  obtain ⟨hB, hb1⟩ := bX k2 hB hb1
  replace hK := hK.trans k2.weak
  refine eC 0 rfl rfl rfl rfl rfl (ba 4 rfl rfl rfl rfl (fun W' kk => ao rfl) (ba 5 rfl rfl rfl rfl (fun W' kk => ak aO rfl gZ (by decide) rfl) (ba 6 rfl rfl rfl rfl (fun W' kk => ae iu rfl (Bk.oC hb91 kk) rfl) (ba 3 rfl rfl rfl rfl (fun W' kk => ak aE rfl am (by decide) rfl) (ba 8 rfl rfl rfl rfl (fun W' kk => ae aw rfl (Bk.oC hb1 kk) rfl) (ba 3 rfl rfl rfl rfl (fun W' kk => ak aE rfl am (by decide) rfl) (ba 10 rfl rfl rfl rfl (fun W' kk => ae aw rfl (Bk.oC hb1 kk) rfl) (ba 3 rfl rfl rfl rfl (fun W' kk => ak aE rfl am (by decide) rfl) ?_))))))))
  refine ba 12 rfl rfl rfl rfl (fun W' kk => ae aw rfl (Bk.oC hb1 kk) rfl) (fo [(9, _), (11, _), (13, _)] rfl rfl ⟨rfl, rfl, rfl, trivial⟩ rfl (fun w4 k4 => ?_))
  obtain ⟨hb90, hb91⟩ := cm k4 hb90 hb91
  replace o90 := o90.oC k4
  obtain ⟨hB, hb1⟩ := bX k4 hB hb1
  replace hK := hK.trans k4.weak
  refine (cf (m := 3) (ls := [l.enc, l.sig, l.name]) (xs := [.tmp 9, .tmp 11, .tmp 13]) (us := [_, _, _]) aJ am rfl rfl (bL (by first | exact Rd.nil _ _ | exact (by first | assumption | exact Own.rd (by assumption) | exact Rd.oC (by assumption) hB | exact Own.rd (Own.oC (by assumption) hB))) (bL (by first | exact Rd.nil _ _ | exact (by first | assumption | exact Own.rd (by assumption) | exact Rd.oC (by assumption) hB | exact Own.rd (Own.oC (by assumption) hB))) (bL (by first | exact Rd.nil _ _ | exact (by first | assumption | exact Own.rd (by assumption) | exact Rd.oC (by assumption) hB | exact Own.rd (Own.oC (by assumption) hB))) (bb _)))) rfl rfl).mono ?_
  rintro v1 w3 ⟨sl1, k3⟩
  refine ⟨k3, (fun x hx => ⟨.inr (sl1.vblk x (sl1.cblk ▸ hx)).1, (sl1.vblk x (sl1.cblk ▸ hx)).2⟩), ?_⟩
  obtain ⟨hb90, hb91⟩ := cm k3 hb90 hb91
  replace o90 := o90.oC k3
  obtain ⟨hB, hb1⟩ := bX k3 hB hb1
  replace hK := hK.trans k3.weak
  refine dW (fun w5 k5 => ?_)
  obtain ⟨hb90, hb91⟩ := cm k5 hb90 hb91
  replace o90 := o90.oC k5
  replace hb1 := hb1.oC k5
  replace sl1 := sl1.oC k5
  replace hB := hB.trans k5
  replace hK := hK.trans k5.weak
  refine ce ?_
  have hlen : (xs).length + (vecsB [l.enc, l.sig, l.name]).length ≤ 140737488355328 := by (try simp only [List.length_append, List.length_nil]); omega
  have lt_hb1_v2 := hb1.lt
  refine ah (dd (cs := [.pointer (some ⟨p, 0, none⟩)]) rfl rfl (eJ w0 _ hB p q v xs _ [l.enc, l.sig, l.name] _ sl1 (.inr (by simp))  ⟨hb90, hb91, o90, ⟨ge_p, ge_q, ne_p_q⟩, hvo⟩ hlen)) rfl ?_
  rintro _ w6 ⟨rfl, v2, ⟨hb2, hb3, o2, _, hv1⟩, k6, lb1⟩
  have hKs := hK.size
  replace hB := hB.new k6 (fun x hx => (List.mem_cons.1 hx).elim (fun e => .inl (e ▸ ge_q)) (fun h => .inl (o90.blk x h).1))
  replace hK := hK.new k6 (fun x hx => (List.mem_cons.1 hx).elim (fun e => .inr (e ▸ List.mem_cons_self)) (fun h => (hlb x h).elim (fun h => .inr (List.mem_cons_of_mem _ h)) .inl))
  replace hb1 := hb1.keep k6 (fun hm => (List.mem_cons.1 hm).elim (fun e => (Ne.symm ne_q_b1) e) (fun h => sv_b1 _ h rfl))
  replace sv_b1 : ∀ x, x ∈ vblk v2 → x ≠ b1 := fun x hx => (lb1 x hx).elim (sv_b1 x) (fun h => (show x ≠ b1 from by omega))
  replace hlb : ∀ x, x ∈ vblk v2 → x ∈ vblk v ∨ w.heap.size ≤ x := fun x hx => (lb1 x hx).elim (hlb x) (fun h => .inr (Nat.le_trans hKs h))
  replace hvo := hv1
  clear lb1
  refine a6 (af [(0, _), (3, _)] ⟨rfl, rfl, trivial⟩ (a5 (mx 6 mixed (by decide +kernel) (fun w7 k7 => ?_))))
  obtain ⟨hb2, hb3⟩ := cm k7 hb2 hb3
  replace o2 := o2.oC k7
  obtain ⟨hB, hb1⟩ := bX k7 hB hb1
  replace hK := hK.trans k7.weak
  refine iC (bC rfl) rfl (iC (ao rfl) rfl (iC (ak aO rfl jm (by decide) rfl) rfl (iC (ae nD rfl hb3 rfl) rfl (iC (ak aE rfl bh (by decide) rfl) rfl (iC (ae cY rfl hb1 rfl) rfl (nC ?_))))))
  have hlen : (xs ++ vecsB [l.enc, l.sig, l.name]).length + (numB (bitsOf 1) l.src 1).length ≤ 140737488355328 := by (try simp only [List.length_append, List.length_nil]); omega
  have lt_hb1_v3 := hb1.lt
  refine ah (dd (cs := [.pointer (some ⟨p, 0, none⟩)]) rfl rfl (hC w0 _ hB p q v2 (xs ++ vecsB [l.enc, l.sig, l.name]) l.src 1 (.inl rfl)  ⟨hb2, hb3, o2, ⟨ge_p, ge_q, ne_p_q⟩, hvo⟩ hlen)) rfl ?_
  rintro _ w8 ⟨rfl, v3, ⟨hb4, hb5, o3, _, hv2⟩, k8, lb2⟩
  have hKs := hK.size
  replace hB := hB.new k8 (fun x hx => (List.mem_cons.1 hx).elim (fun e => .inl (e ▸ ge_q)) (fun h => .inl (o2.blk x h).1))
  replace hK := hK.new k8 (fun x hx => (List.mem_cons.1 hx).elim (fun e => .inr (e ▸ List.mem_cons_self)) (fun h => (hlb x h).elim (fun h => .inr (List.mem_cons_of_mem _ h)) .inl))
  replace hb1 := hb1.keep k8 (fun hm => (List.mem_cons.1 hm).elim (fun e => (Ne.symm ne_q_b1) e) (fun h => sv_b1 _ h rfl))
  replace sv_b1 : ∀ x, x ∈ vblk v3 → x ≠ b1 := fun x hx => (lb2 x hx).elim (sv_b1 x) (fun h => (show x ≠ b1 from by omega))
  replace hlb : ∀ x, x ∈ vblk v3 → x ∈ vblk v ∨ w.heap.size ≤ x := fun x hx => (lb2 x hx).elim (hlb x) (fun h => .inr (Nat.le_trans hKs h))
  replace hvo := hv2
  clear lb2
  refine a6 (a5 (aZ (a7 (ak aE rfl bh (by decide) rfl) rfl (a7 (ae cY rfl hb1 rfl) rfl (a7 (bE rfl rfl) rfl (a6 (bF rfl (fun hc1 => ?_) (fun hc1 => ?_))))))))
  · -- yes
    refine ca 7 [0, 1, 2, 3, 4, 5, 6] [6] [] [] mixed [(0, _), (3, _)] ⟨rfl, rfl, trivial⟩ (by decide +kernel) (by decide) (by decide) ?_ (fun x hx => by cases hx) rfl (fun w9 k9 => ?_)
    · intro q hq; cases hq
    obtain ⟨hb4, hb5⟩ := cm k9 hb4 hb5
    replace o3 := o3.oC k9
    obtain ⟨hB, hb1⟩ := bX k9 hB hb1
    replace hK := hK.trans k9.weak
    refine eC 0 rfl rfl rfl rfl rfl (ba 26 rfl rfl rfl rfl (fun W' kk => ao rfl) (ba 27 rfl rfl rfl rfl (fun W' kk => ak aO rfl gZ (by decide) rfl) (ba 28 rfl rfl rfl rfl (fun W' kk => ae iu rfl (Bk.oC hb5 kk) rfl) (ba 3 rfl rfl rfl rfl (fun W' kk => ak aE rfl am (by decide) rfl) (ba 30 rfl rfl rfl rfl (fun W' kk => ae aw rfl (Bk.oC hb1 kk) rfl) (fo [(31, _)] rfl rfl ⟨rfl, trivial⟩ rfl (fun w11 k11 => ?_)))))))
    obtain ⟨hb4, hb5⟩ := cm k11 hb4 hb5
    replace o3 := o3.oC k11
    obtain ⟨hB, hb1⟩ := bX k11 hB hb1
    replace hK := hK.trans k11.weak
    refine (cf (m := 1) (ls := [l.hash]) (xs := [.tmp 31]) (us := [_]) aJ am rfl rfl (bL (by first | exact Rd.nil _ _ | exact (by first | assumption | exact Own.rd (by assumption) | exact Rd.oC (by assumption) hB | exact Own.rd (Own.oC (by assumption) hB))) (bb _)) rfl rfl).mono ?_
    rintro v4 w10 ⟨sl2, k10⟩
    refine ⟨k10, (fun x hx => ⟨.inr (sl2.vblk x (sl2.cblk ▸ hx)).1, (sl2.vblk x (sl2.cblk ▸ hx)).2⟩), ?_⟩
    obtain ⟨hb4, hb5⟩ := cm k10 hb4 hb5
    replace o3 := o3.oC k10
    obtain ⟨hB, hb1⟩ := bX k10 hB hb1
    replace hK := hK.trans k10.weak
    refine dW (fun w12 k12 => ?_)
    obtain ⟨hb4, hb5⟩ := cm k12 hb4 hb5
    replace o3 := o3.oC k12
    replace hb1 := hb1.oC k12
    replace sl2 := sl2.oC k12
    replace hB := hB.trans k12
    replace hK := hK.trans k12.weak
    refine ce ?_
    have hlen : (xs ++ vecsB [l.enc, l.sig, l.name] ++ numB (bitsOf 1) l.src 1).length + (vecsB [l.hash]).length ≤ 140737488355328 := by (try simp only [List.length_append, List.length_nil]); omega
    have lt_hb1_v5 := hb1.lt
    refine ah (dd (cs := [.pointer (some ⟨p, 0, none⟩)]) rfl rfl (eJ w0 _ hB p q v3 (xs ++ vecsB [l.enc, l.sig, l.name] ++ numB (bitsOf 1) l.src 1) _ [l.hash] _ sl2 (.inr (by simp))  ⟨hb4, hb5, o3, ⟨ge_p, ge_q, ne_p_q⟩, hvo⟩ hlen)) rfl ?_
    rintro _ w13 ⟨rfl, v5, ⟨hb6, hb7, o5, _, hv3⟩, k13, lb3⟩
    have hKs := hK.size
    replace hB := hB.new k13 (fun x hx => (List.mem_cons.1 hx).elim (fun e => .inl (e ▸ ge_q)) (fun h => .inl (o3.blk x h).1))
    replace hK := hK.new k13 (fun x hx => (List.mem_cons.1 hx).elim (fun e => .inr (e ▸ List.mem_cons_self)) (fun h => (hlb x h).elim (fun h => .inr (List.mem_cons_of_mem _ h)) .inl))
    replace hb1 := hb1.keep k13 (fun hm => (List.mem_cons.1 hm).elim (fun e => (Ne.symm ne_q_b1) e) (fun h => sv_b1 _ h rfl))
    replace sv_b1 : ∀ x, x ∈ vblk v5 → x ≠ b1 := fun x hx => (lb3 x hx).elim (sv_b1 x) (fun h => (show x ≠ b1 from by omega))
    replace hlb : ∀ x, x ∈ vblk v5 → x ∈ vblk v ∨ w.heap.size ≤ x := fun x hx => (lb3 x hx).elim (hlb x) (fun h => .inr (Nat.le_trans hKs h))
    replace hvo := hv3
    clear lb3
    refine a6 (af [] trivial (dF hfin Try.results70 ?_))
    have hsrc : l.src = 3 := by first | assumption | omega
    exact ⟨rfl, v5, ⟨hb6, hb7, (by have e : xs ++ vecsB [l.enc, l.sig, l.name] ++ numB (bitsOf 1) l.src 1 ++ vecsB [l.hash] = xs ++ leafBare l := (by unfold leafBare; rw [e3, show bitsOf 1 = 8 from rfl, lM ⟨by omega, by omega⟩, if_pos hsrc, e4]; simp only [List.append_assoc, List.append_nil]); rw [← e]; exact o5), ⟨ge_p, ge_q, ne_p_q⟩, hvo⟩, hK, hlb⟩
  · -- no
    refine aj (dF hfin Try.results70 ?_)
    have hsrc : l.src ≠ 3 := by first | assumption | omega
    exact ⟨rfl, v3, ⟨hb4, hb5, (by have e : xs ++ vecsB [l.enc, l.sig, l.name] ++ numB (bitsOf 1) l.src 1 = xs ++ leafBare l := (by unfold leafBare; rw [e3, show bitsOf 1 = 8 from rfl, lM ⟨by omega, by omega⟩, if_neg hsrc]; simp only [List.append_assoc, List.append_nil]); rw [← e]; exact o3), ⟨ge_p, ge_q, ne_p_q⟩, hvo⟩, hK, hlb⟩
theorem num12 : numB (bitsOf 2) 1 2 = [0, 1] := by decide
theorem kh (w0 w : World) (hB : Keep [] w0 w) (p q : Nat) (v : Value) (xs : List UInt8) (i e s n h g gg : Value) (z : Pk) (hi : RdB w0 i z.init) (he : RdB w0 e z.leaf.enc) (hs : RdB w0 s z.leaf.sig) (hn : RdB w0 n z.leaf.name) (hh : RdB w0 h z.leaf.hash) (hg : RdB w0 g z.leaf.sg) (hgg : RdB w0 gg z.sg) (hok : pkOk z = true) (hw : Wr w0.heap.size w p q v xs) (hxs : xs.length ≤ 1000) : Rets Try.prog 68 [.pointer (some ⟨q, 0, none⟩), .agg [i, e, s, n, .int .i64 z.leaf.src, h, g, gg].toArray] w (fun r w' => r = .tuple #[] ∧ WrTo w0.heap.size w w' p q v (xs ++ pkOffer z)) := by
  obtain ⟨hb90, hb91, o90, ⟨ge_p, ge_q, ne_p_q⟩, hvo⟩ := hw
  have ne_q_p := Ne.symm ne_p_q
  have gl_o90 := Nat.le_refl w0.heap.size
  have hK : Keep (q :: vblk v) w w := Keep.refl _ _
  have hlb : ∀ x, x ∈ vblk v → x ∈ vblk v ∨ w.heap.size ≤ x := fun x hx => .inl hx
  obtain ⟨n1, n2, hlo⟩ := dj hok
  obtain ⟨_, _, _, _, n5, _, _⟩ := cZ hlo
  obtain ⟨e1, m1⟩ := fv n1
  obtain ⟨e2, m2⟩ := fv n5
  have m3 : (numB (bitsOf 2) 1 2).length = 2 := by rw [num12]; rfl
  have m4 := da hlo
  refine ai Try.func68 rfl (by decide) Try.ntmps68 rfl (fun fin _ hfin => a5 (aZ ?_))
  have ltv := fun x hx => (o90.blk x hx).2
  refine ah (bc (cs := [i, e, s, n, .int .i64 z.leaf.src, h, g, gg]) rfl rfl) rfl ?_
  rintro _ w1 ⟨b1, rfl, eb1, hb1, k1, z1⟩
  have ge_b1 : w.heap.size ≤ b1 := by have := hB.size; omega
  have ne_p_b1 : p ≠ b1 := by have := hb90.lt; omega
  have ne_q_b1 : q ≠ b1 := by have := hb91.lt; omega
  obtain ⟨hb90, hb91⟩ := cm k1 hb90 hb91
  replace o90 := o90.oC k1
  replace hB := hB.trans k1
  replace hK := hK.trans k1.weak
  clear eb1 z1
  have sv_b1 : ∀ x, x ∈ vblk v → x ≠ b1 := fun x hx => Nat.ne_of_lt (Nat.lt_of_lt_of_le (ltv x hx) (by omega))
  refine a6 (a5 (aZ (ogm rfl rfl (a7 (ao rfl) rfl (a7 (ak aO rfl jm (by decide) rfl) rfl (a7 (ae nD rfl hb91 rfl) rfl ?_))))))
  have hlen : (xs).length + (numB (bitsOf 2) 1 2).length ≤ 140737488355328 := by (try simp only [List.length_append, List.length_nil]); omega
  have lt_hb1_v1 := hb1.lt
  refine ah (dd (cs := [.pointer (some ⟨p, 0, none⟩)]) rfl rfl (hC w0 _ hB p q v xs 1 2 (.inr (.inl rfl))  ⟨hb90, hb91, o90, ⟨ge_p, ge_q, ne_p_q⟩, hvo⟩ hlen)) rfl ?_
  rintro _ w2 ⟨rfl, v1, ⟨hb2, hb3, o1, _, hv1⟩, k2, lb1⟩
  have hKs := hK.size
  replace hB := hB.new k2 (fun x hx => (List.mem_cons.1 hx).elim (fun e => .inl (e ▸ ge_q)) (fun h => .inl (o90.blk x h).1))
  replace hK := hK.new k2 (fun x hx => (List.mem_cons.1 hx).elim (fun e => .inr (e ▸ List.mem_cons_self)) (fun h => (hlb x h).elim (fun h => .inr (List.mem_cons_of_mem _ h)) .inl))
  replace hb1 := hb1.keep k2 (fun hm => (List.mem_cons.1 hm).elim (fun e => (Ne.symm ne_q_b1) e) (fun h => sv_b1 _ h rfl))
  replace sv_b1 : ∀ x, x ∈ vblk v1 → x ≠ b1 := fun x hx => (lb1 x hx).elim (sv_b1 x) (fun h => (show x ≠ b1 from by omega))
  replace hlb : ∀ x, x ∈ vblk v1 → x ∈ vblk v ∨ w.heap.size ≤ x := fun x hx => (lb1 x hx).elim (hlb x) (fun h => .inr (Nat.le_trans hKs h))
  replace hvo := hv1
  clear lb1
  refine a6 (a5 (aZ (ogm rfl rfl (a7 (ao rfl) rfl (a7 (ak aO rfl jm (by decide) rfl) rfl (a7 (ae nD rfl hb3 rfl) rfl ?_))))))
  have hlen : (xs ++ numB (bitsOf 2) 1 2).length + (numB (bitsOf 2) 1 2).length ≤ 140737488355328 := by (try simp only [List.length_append, List.length_nil]); omega
  have lt_hb1_v2 := hb1.lt
  refine ah (dd (cs := [.pointer (some ⟨p, 0, none⟩)]) rfl rfl (hC w0 _ hB p q v1 (xs ++ numB (bitsOf 2) 1 2) 1 2 (.inr (.inl rfl))  ⟨hb2, hb3, o1, ⟨ge_p, ge_q, ne_p_q⟩, hvo⟩ hlen)) rfl ?_
  rintro _ w3 ⟨rfl, v2, ⟨hb4, hb5, o2, _, hv2⟩, k3, lb2⟩
  have hKs := hK.size
  replace hB := hB.new k3 (fun x hx => (List.mem_cons.1 hx).elim (fun e => .inl (e ▸ ge_q)) (fun h => .inl (o1.blk x h).1))
  replace hK := hK.new k3 (fun x hx => (List.mem_cons.1 hx).elim (fun e => .inr (e ▸ List.mem_cons_self)) (fun h => (hlb x h).elim (fun h => .inr (List.mem_cons_of_mem _ h)) .inl))
  replace hb1 := hb1.keep k3 (fun hm => (List.mem_cons.1 hm).elim (fun e => (Ne.symm ne_q_b1) e) (fun h => sv_b1 _ h rfl))
  replace sv_b1 : ∀ x, x ∈ vblk v2 → x ≠ b1 := fun x hx => (lb2 x hx).elim (sv_b1 x) (fun h => (show x ≠ b1 from by omega))
  replace hlb : ∀ x, x ∈ vblk v2 → x ∈ vblk v ∨ w.heap.size ≤ x := fun x hx => (lb2 x hx).elim (hlb x) (fun h => .inr (Nat.le_trans hKs h))
  replace hvo := hv2
  clear lb2
  refine a6 (af [(0, _), (3, _)] ⟨rfl, rfl, trivial⟩ (a5 (ca 7 [0, 1, 2, 3, 4, 5, 6] [6] [] [] mixed [(0, _), (3, _)] ⟨rfl, rfl, trivial⟩ (by decide +kernel) (by decide) (by decide) ?_ (fun x hx => by cases hx) rfl (fun w4 k4 => ?_))))
  · intro q hq; cases hq
  obtain ⟨hb4, hb5⟩ := cm k4 hb4 hb5
  replace o2 := o2.oC k4
  obtain ⟨hB, hb1⟩ := bX k4 hB hb1
  replace hK := hK.trans k4.weak
  refine eC 0 rfl rfl rfl rfl rfl (ba 14 rfl rfl rfl rfl (fun W' kk => ao rfl) (ba 15 rfl rfl rfl rfl (fun W' kk => ak aO rfl gZ (by decide) rfl) (ba 16 rfl rfl rfl rfl (fun W' kk => ae iu rfl (Bk.oC hb5 kk) rfl) (ba 3 rfl rfl rfl rfl (fun W' kk => ak aL rfl am (by decide) rfl) (ba 18 rfl rfl rfl rfl (fun W' kk => ae aw rfl (Bk.oC hb1 kk) rfl) (fo [(19, _)] rfl rfl ⟨rfl, trivial⟩ rfl (fun w6 k6 => ?_)))))))
  obtain ⟨hb4, hb5⟩ := cm k6 hb4 hb5
  replace o2 := o2.oC k6
  obtain ⟨hB, hb1⟩ := bX k6 hB hb1
  replace hK := hK.trans k6.weak
  refine (cf (m := 1) (ls := [z.init]) (xs := [.tmp 19]) (us := [_]) aJ am rfl rfl (bL (by first | exact Rd.nil _ _ | exact (by first | assumption | exact Own.rd (by assumption) | exact Rd.oC (by assumption) hB | exact Own.rd (Own.oC (by assumption) hB))) (bb _)) rfl rfl).mono ?_
  rintro v3 w5 ⟨sl1, k5⟩
  refine ⟨k5, (fun x hx => ⟨.inr (sl1.vblk x (sl1.cblk ▸ hx)).1, (sl1.vblk x (sl1.cblk ▸ hx)).2⟩), ?_⟩
  obtain ⟨hb4, hb5⟩ := cm k5 hb4 hb5
  replace o2 := o2.oC k5
  obtain ⟨hB, hb1⟩ := bX k5 hB hb1
  replace hK := hK.trans k5.weak
  refine dW (fun w7 k7 => ?_)
  obtain ⟨hb4, hb5⟩ := cm k7 hb4 hb5
  replace o2 := o2.oC k7
  replace hb1 := hb1.oC k7
  replace sl1 := sl1.oC k7
  replace hB := hB.trans k7
  replace hK := hK.trans k7.weak
  refine ce ?_
  have hlen : (xs ++ numB (bitsOf 2) 1 2 ++ numB (bitsOf 2) 1 2).length + (vecsB [z.init]).length ≤ 140737488355328 := by (try simp only [List.length_append, List.length_nil]); omega
  have lt_hb1_v4 := hb1.lt
  refine ah (dd (cs := [.pointer (some ⟨p, 0, none⟩)]) rfl rfl (eJ w0 _ hB p q v2 (xs ++ numB (bitsOf 2) 1 2 ++ numB (bitsOf 2) 1 2) _ [z.init] _ sl1 (.inr (by simp))  ⟨hb4, hb5, o2, ⟨ge_p, ge_q, ne_p_q⟩, hvo⟩ hlen)) rfl ?_
  rintro _ w8 ⟨rfl, v4, ⟨hb6, hb7, o4, _, hv3⟩, k8, lb3⟩
  have hKs := hK.size
  replace hB := hB.new k8 (fun x hx => (List.mem_cons.1 hx).elim (fun e => .inl (e ▸ ge_q)) (fun h => .inl (o2.blk x h).1))
  replace hK := hK.new k8 (fun x hx => (List.mem_cons.1 hx).elim (fun e => .inr (e ▸ List.mem_cons_self)) (fun h => (hlb x h).elim (fun h => .inr (List.mem_cons_of_mem _ h)) .inl))
  replace hb1 := hb1.keep k8 (fun hm => (List.mem_cons.1 hm).elim (fun e => (Ne.symm ne_q_b1) e) (fun h => sv_b1 _ h rfl))
  replace sv_b1 : ∀ x, x ∈ vblk v4 → x ≠ b1 := fun x hx => (lb3 x hx).elim (sv_b1 x) (fun h => (show x ≠ b1 from by omega))
  replace hlb : ∀ x, x ∈ vblk v4 → x ∈ vblk v ∨ w.heap.size ≤ x := fun x hx => (lb3 x hx).elim (hlb x) (fun h => .inr (Nat.le_trans hKs h))
  replace hvo := hv3
  clear lb3
  refine a6 (a5 (aZ (ogm rfl rfl (a7 (ak aL rfl bk (by decide) rfl) rfl (a7 (au (cs' := [_, _, _, _, _, _]) dt bk rfl hb1 rfl rfl) rfl ?_)))))
  have hlen : (xs ++ numB (bitsOf 2) 1 2 ++ numB (bitsOf 2) 1 2 ++ vecsB [z.init]).length ≤ 100000 := by (try simp only [List.length_append, List.length_nil]); omega
  have lt_hb1_v5 := hb1.lt
  refine ah (ab rfl (ik w0 _ hB p q v4 (xs ++ numB (bitsOf 2) 1 2 ++ numB (bitsOf 2) 1 2 ++ vecsB [z.init]) e s n h g z.leaf he hs hn hh hg hlo  ⟨hb6, hb7, o4, ⟨ge_p, ge_q, ne_p_q⟩, hvo⟩ hlen)) rfl ?_
  rintro _ w9 ⟨rfl, v5, ⟨hb8, hb9, o5, _, hv4⟩, k9, lb4⟩
  have hKs := hK.size
  replace hB := hB.new k9 (fun x hx => (List.mem_cons.1 hx).elim (fun e => .inl (e ▸ ge_q)) (fun h => .inl (o4.blk x h).1))
  replace hK := hK.new k9 (fun x hx => (List.mem_cons.1 hx).elim (fun e => .inr (e ▸ List.mem_cons_self)) (fun h => (hlb x h).elim (fun h => .inr (List.mem_cons_of_mem _ h)) .inl))
  replace hb1 := hb1.keep k9 (fun hm => (List.mem_cons.1 hm).elim (fun e => (Ne.symm ne_q_b1) e) (fun h => sv_b1 _ h rfl))
  replace sv_b1 : ∀ x, x ∈ vblk v5 → x ≠ b1 := fun x hx => (lb4 x hx).elim (sv_b1 x) (fun h => (show x ≠ b1 from by omega))
  replace hlb : ∀ x, x ∈ vblk v5 → x ∈ vblk v ∨ w.heap.size ≤ x := fun x hx => (lb4 x hx).elim (hlb x) (fun h => .inr (Nat.le_trans hKs h))
  replace hvo := hv4
  clear lb4
  refine a6 (af [(0, _), (3, _)] ⟨rfl, rfl, trivial⟩ (ca 8 [0, 1, 2, 3, 4, 5, 6, 7] [7] [] [] mixed [(0, _), (3, _)] ⟨rfl, rfl, trivial⟩ (by decide +kernel) (by decide) (by decide) ?_ (fun x hx => by cases hx) rfl (fun w10 k10 => ?_)))
  · intro q hq; cases hq
  obtain ⟨hb8, hb9⟩ := cm k10 hb8 hb9
  replace o5 := o5.oC k10
  obtain ⟨hB, hb1⟩ := bX k10 hB hb1
  replace hK := hK.trans k10.weak
  refine eC 0 rfl rfl rfl rfl rfl (ba 26 rfl rfl rfl rfl (fun W' kk => ao rfl) (ba 27 rfl rfl rfl rfl (fun W' kk => ak aO rfl gZ (by decide) rfl) (ba 28 rfl rfl rfl rfl (fun W' kk => ae iu rfl (Bk.oC hb9 kk) rfl) (ba 3 rfl rfl rfl rfl (fun W' kk => ak aL rfl bk (by decide) rfl) (ba 30 rfl rfl rfl rfl (fun W' kk => ak aE rfl am (by decide) rfl) (ba 31 rfl rfl rfl rfl (fun W' kk => ae aw rfl (Bk.oC hb1 kk) rfl) (fo [(32, _)] rfl rfl ⟨rfl, trivial⟩ rfl (fun w12 k12 => ?_))))))))
  obtain ⟨hb8, hb9⟩ := cm k12 hb8 hb9
  replace o5 := o5.oC k12
  obtain ⟨hB, hb1⟩ := bX k12 hB hb1
  replace hK := hK.trans k12.weak
  refine (cf (m := 1) (ls := [z.leaf.sg]) (xs := [.tmp 32]) (us := [_]) aJ am rfl rfl (bL (by first | exact Rd.nil _ _ | exact (by first | assumption | exact Own.rd (by assumption) | exact Rd.oC (by assumption) hB | exact Own.rd (Own.oC (by assumption) hB))) (bb _)) rfl rfl).mono ?_
  rintro v6 w11 ⟨sl2, k11⟩
  refine ⟨k11, (fun x hx => ⟨.inr (sl2.vblk x (sl2.cblk ▸ hx)).1, (sl2.vblk x (sl2.cblk ▸ hx)).2⟩), ?_⟩
  obtain ⟨hb8, hb9⟩ := cm k11 hb8 hb9
  replace o5 := o5.oC k11
  obtain ⟨hB, hb1⟩ := bX k11 hB hb1
  replace hK := hK.trans k11.weak
  refine dW (fun w13 k13 => ?_)
  obtain ⟨hb8, hb9⟩ := cm k13 hb8 hb9
  replace o5 := o5.oC k13
  replace hb1 := hb1.oC k13
  replace sl2 := sl2.oC k13
  replace hB := hB.trans k13
  replace hK := hK.trans k13.weak
  refine ce ?_
  have hlen : (xs ++ numB (bitsOf 2) 1 2 ++ numB (bitsOf 2) 1 2 ++ vecsB [z.init] ++ leafBare z.leaf).length + (vecsB [z.leaf.sg]).length ≤ 140737488355328 := by (try simp only [List.length_append, List.length_nil]); omega
  have lt_hb1_v7 := hb1.lt
  refine ah (dd (cs := [.pointer (some ⟨p, 0, none⟩)]) rfl rfl (eJ w0 _ hB p q v5 (xs ++ numB (bitsOf 2) 1 2 ++ numB (bitsOf 2) 1 2 ++ vecsB [z.init] ++ leafBare z.leaf) _ [z.leaf.sg] _ sl2 (.inr (by simp))  ⟨hb8, hb9, o5, ⟨ge_p, ge_q, ne_p_q⟩, hvo⟩ hlen)) rfl ?_
  rintro _ w14 ⟨rfl, v7, ⟨hb10, hb11, o7, _, hv5⟩, k14, lb5⟩
  have hKs := hK.size
  replace hB := hB.new k14 (fun x hx => (List.mem_cons.1 hx).elim (fun e => .inl (e ▸ ge_q)) (fun h => .inl (o5.blk x h).1))
  replace hK := hK.new k14 (fun x hx => (List.mem_cons.1 hx).elim (fun e => .inr (e ▸ List.mem_cons_self)) (fun h => (hlb x h).elim (fun h => .inr (List.mem_cons_of_mem _ h)) .inl))
  replace sv_b1 : ∀ x, x ∈ vblk v7 → x ≠ b1 := fun x hx => (lb5 x hx).elim (sv_b1 x) (fun h => (show x ≠ b1 from by omega))
  replace hlb : ∀ x, x ∈ vblk v7 → x ∈ vblk v ∨ w.heap.size ≤ x := fun x hx => (lb5 x hx).elim (hlb x) (fun h => .inr (Nat.le_trans hKs h))
  replace hvo := hv5
  clear lb5
  refine a6 (af [] trivial (dF hfin Try.results68 ?_))
  exact ⟨rfl, v7, ⟨hb10, hb11, (by have e : xs ++ numB (bitsOf 2) 1 2 ++ numB (bitsOf 2) 1 2 ++ vecsB [z.init] ++ leafBare z.leaf ++ vecsB [z.leaf.sg] = xs ++ pkOffer z := (by unfold pkOffer leafB; rw [num12, e1, e2]; simp only [List.append_assoc, List.cons_append, List.nil_append]); rw [← e]; exact o7), ⟨ge_p, ge_q, ne_p_q⟩, hvo⟩, hK, hlb⟩
theorem fK (e s n h g : Value) (l : Lf) (w : World) (he : RdB w e l.enc) (hs : RdB w s l.sig) (hn : RdB w n l.name) (hh : RdB w h l.hash) (hg : RdB w g l.sg) : Rets Try.prog 30 [.agg [e, s, n, .int .i64 l.src, h, g].toArray] w (fun r w' => ∃ u, r = .tuple #[u, .int .i64 (bif leafOk l then 0 else 1)] ∧ OwnB w' w.heap.size u (bif leafOk l then leafB l else []) ∧ Keep [] w w') := by
  have hB : Keep [] w w := Keep.refl _ _
  refine ga Try.func30 rfl (by decide) Try.ntmps30 rfl (fun fin hfin hpan => a5 (aZ (ah (bc (cs := [e, s, n, .int .i64 l.src, h, g]) rfl rfl) rfl ?_)))
  rintro _ w1 ⟨b1, rfl, eb1, hb1, k1, z1⟩
  have ge_b1 : w.heap.size ≤ b1 := by have := hB.size; omega
  replace hB := hB.trans k1
  clear eb1 z1
  refine oga rfl rfl (ah (bG cX) rfl ?_)
  rintro _ w2 ⟨b2, rfl, eb2, hb2, k2, z2⟩
  have ge_b2 : w.heap.size ≤ b2 := by have := hB.size; omega
  have ne_b1_b2 : b1 ≠ b2 := by have := hb1.lt; omega
  obtain ⟨hB, hb1⟩ := bX k2 hB hb1
  clear eb2 z2
  refine a6 (a5 (aZ (kD rfl (a6 (a5 (aZ (a7 (au (cs' := [_, _, _, _, _, _]) dt bk rfl hb1 rfl rfl) rfl (cw rfl (jA _ _ _ _ _ l _ (by first | assumption | exact Own.rd (by assumption) | exact Rd.oC (by assumption) hB | exact Own.rd (Own.oC (by assumption) hB)) (by first | assumption | exact Own.rd (by assumption) | exact Rd.oC (by assumption) hB | exact Own.rd (Own.oC (by assumption) hB)) (by first | assumption | exact Own.rd (by assumption) | exact Rd.oC (by assumption) hB | exact Own.rd (Own.oC (by assumption) hB)) (by first | assumption | exact Own.rd (by assumption) | exact Rd.oC (by assumption) hB | exact Own.rd (Own.oC (by assumption) hB)) (by first | assumption | exact Own.rd (by assumption) | exact Rd.oC (by assumption) hB | exact Own.rd (Own.oC (by assumption) hB))) rfl (fun hq w3 k3 => ?_) (fun hq w3 k3 a ha => hpan _ a w3 (by have hb := hb2.oC k3; refine iP (S := fun w'' => Bk w'' b2 36 [.int .i64 1] ∧ Keep [b2] w3 w'') ha.defers fY (gj b2 _ 1 _ hb) (fun w'' hS => ?_); have e := ha.get 2 _ rfl; have hh := ee Try.results30 (ha.get 3 _ rfl) (dx jt hS.1 rfl); rw [e] at hh; exact ⟨_, hh, _, rfl, by rw [hq]; exact ⟨_, rfl, a8 _ _ _ _, (hB.trans k3).new hS.2 (nw ge_b2)⟩⟩))))))))))
  obtain ⟨hB, hb1, hb2⟩ := cS k3 hB hb1 hb2
  have hbnd := cZ hq
  refine a6 (a5 (aZ ?_))
  have ltN_b1 := hb1.lt
  have ltN_b2 := hb2.lt
  have hwN := hB.size
  have hBN := hB
  refine ah (ab (vs := []) rfl (f8 _)) rfl ?_
  rintro _ w4 ⟨p, q, rfl, ⟨hb90, hb91, o90, ⟨ge_p, ge_q, ne_p_q⟩, hvo⟩, k4⟩
  have hN := k4
  have ne_q_p := Ne.symm ne_p_q
  obtain ⟨hB, hb1, hb2⟩ := cS k4 hB hb1 hb2
  refine oga rfl rfl (a6 (a5 (aZ (ogm rfl rfl (a7 (au (cs' := [_, _, _, _, _, _]) dt bk rfl hb1 rfl rfl) rfl ?_)))))
  have hlen : (([] : List UInt8)).length ≤ 100000 := by (try simp only [List.length_append, List.length_nil]); omega
  have lt_hb1_v1 := hb1.lt
  have lt_hb2_v1 := hb2.lt
  refine ah (ab rfl (ik w3 _ hN p q (.slice none 0 0) ([] : List UInt8) e s n h g l (he.oC hBN) (hs.oC hBN) (hn.oC hBN) (hh.oC hBN) (hg.oC hBN) hq  ⟨hb90, hb91, o90, ⟨ge_p, ge_q, ne_p_q⟩, hvo⟩ hlen)) rfl ?_
  rintro _ w5 ⟨rfl, v1, ⟨hb3, hb4, o1, _, hv1⟩, k5, lb1⟩
  replace hN := hN.new k5 (fun x hx => (List.mem_cons.1 hx).elim (fun e => .inl (e ▸ ge_q)) (fun h => .inl (o90.blk x h).1))
  replace hB := hB.new k5 (fun x hx => .inl ((List.mem_cons.1 hx).elim (fun e => e ▸ Nat.le_trans hwN ge_q) (fun h => Nat.le_trans hwN (o90.blk x h).1)))
  replace hb1 := hb1.keep k5 (fun hm => (List.mem_cons.1 hm).elim (fun e => absurd e (by omega)) (fun h => absurd (o90.blk _ h).1 (by omega)))
  replace hb2 := hb2.keep k5 (fun hm => (List.mem_cons.1 hm).elim (fun e => absurd e (by omega)) (fun h => absurd (o90.blk _ h).1 (by omega)))
  replace hvo := hv1
  clear lb1
  refine a6 (a5 (ca 7 [0, 1, 2, 3, 4, 5, 6] [6] [] [] mixed [(4, _), (1, _), (3, _)] ⟨rfl, rfl, rfl, trivial⟩ (by show planOkA 23 _ _ _ _ _ = true; decide +kernel) (by decide) (by decide) ?_ (fun x hx => by cases hx) rfl (fun w6 k6 => ?_)))
  · intro q hq; cases hq
  obtain ⟨hb3, hb4⟩ := cm k6 hb3 hb4
  replace o1 := o1.oC k6
  obtain ⟨hB, hb1, hb2⟩ := cS k6 hB hb1 hb2
  replace hN := hN.trans k6
  refine eC 4 rfl rfl rfl rfl rfl (ba 11 rfl rfl rfl rfl (fun W' kk => ao rfl) (ba 12 rfl rfl rfl rfl (fun W' kk => ak aO rfl gZ (by decide) rfl) (ba 13 rfl rfl rfl rfl (fun W' kk => ae iu rfl (Bk.oC hb4 kk) rfl) (ba 1 rfl rfl rfl rfl (fun W' kk => ak aE rfl am (by decide) rfl) (ba 15 rfl rfl rfl rfl (fun W' kk => ae aw rfl (Bk.oC hb1 kk) rfl) (fo [(16, _)] rfl rfl ⟨rfl, trivial⟩ rfl (fun w8 k8 => ?_)))))))
  obtain ⟨hb3, hb4⟩ := cm k8 hb3 hb4
  replace o1 := o1.oC k8
  obtain ⟨hB, hb1, hb2⟩ := cS k8 hB hb1 hb2
  replace hN := hN.trans k8
  refine (cf (m := 1) (ls := [l.sg]) (xs := [.tmp 16]) (us := [_]) aJ am rfl rfl (bL (by first | exact Rd.nil _ _ | exact (by first | assumption | exact Own.rd (by assumption) | exact Rd.oC (by assumption) hB | exact Own.rd (Own.oC (by assumption) hB))) (bb _)) rfl rfl).mono ?_
  rintro v2 w7 ⟨sl1, k7⟩
  refine ⟨k7, (fun x hx => ⟨.inr (sl1.vblk x (sl1.cblk ▸ hx)).1, (sl1.vblk x (sl1.cblk ▸ hx)).2⟩), ?_⟩
  obtain ⟨hb3, hb4⟩ := cm k7 hb3 hb4
  replace o1 := o1.oC k7
  obtain ⟨hB, hb1, hb2⟩ := cS k7 hB hb1 hb2
  replace hN := hN.trans k7
  refine dW (fun w9 k9 => ?_)
  obtain ⟨hb3, hb4⟩ := cm k9 hb3 hb4
  replace o1 := o1.oC k9
  obtain ⟨hb1, hb2⟩ := cm k9 hb1 hb2
  replace sl1 := sl1.oC k9
  replace hB := hB.trans k9
  replace hN := hN.trans k9
  refine ce ?_
  have hsg := fv (a := l.sg) (by omega)
  have hbl := da hq
  have hb1l := hsg.2
  have hlen : (([] : List UInt8) ++ leafBare l).length + (vecsB [l.sg]).length ≤ 140737488355328 := by (try simp only [List.length_append, List.length_nil]); omega
  have lt_hb1_v3 := hb1.lt
  have lt_hb2_v3 := hb2.lt
  refine ah (dd (cs := [.pointer (some ⟨p, 0, none⟩)]) rfl rfl (eJ w3 _ hN p q v1 (([] : List UInt8) ++ leafBare l) _ [l.sg] _ sl1 (.inr (by simp))  ⟨hb3, hb4, o1, ⟨ge_p, ge_q, ne_p_q⟩, hvo⟩ hlen)) rfl ?_
  rintro _ w10 ⟨rfl, v3, ⟨hb5, hb6, o3, _, hv2⟩, k10, lb2⟩
  replace hN := hN.new k10 (fun x hx => (List.mem_cons.1 hx).elim (fun e => .inl (e ▸ ge_q)) (fun h => .inl (o1.blk x h).1))
  replace hB := hB.new k10 (fun x hx => .inl ((List.mem_cons.1 hx).elim (fun e => e ▸ Nat.le_trans hwN ge_q) (fun h => Nat.le_trans hwN (o1.blk x h).1)))
  replace hb2 := hb2.keep k10 (fun hm => (List.mem_cons.1 hm).elim (fun e => absurd e (by omega)) (fun h => absurd (o1.blk _ h).1 (by omega)))
  replace hvo := hv2
  clear lb2
  refine a6 (a5 (aZ (ogm rfl rfl (a7 (ao rfl) rfl (a7 (ak aO rfl am (by decide) rfl) rfl (a7 (ae aw rfl hb6 rfl) rfl (oga rfl rfl (an (bV cX rfl rfl rfl hb2 rfl) ?_))))))))
  rintro _ w11 ⟨hb7, k11, z3⟩
  replace o3 := o3.keep k11 (fun x hx hm => (fun x hx => (show x ≠ b2 from by have := (o3.blk x hx).1; omega)) x hx (List.mem_singleton.1 hm))
  replace hB := hB.new k11 (nw ge_b2)
  clear z3
  replace hb7 : Bk w11 b2 _ [.int .i64 0] := hb7
  refine a6 (af [(3, _), (2, _)] ⟨rfl, rfl, trivial⟩ (l8 (fun a ha => (hfin a _ (iO (S := fun w'' => w'' = w11) ha.defers fY (gk b2 _) (fun w'' hS => ?_))).1)))
  subst hS
  have e := ha.get 2 _ rfl
  have hh := ee Try.results30 (ha.get 3 _ rfl) (dx jt hb7 rfl)
  rw [e] at hh
  have he2 : ([] : List UInt8) ++ leafBare l ++ vecsB [l.sg] = leafB l := (by unfold leafB; rw [hsg.1]; simp only [List.nil_append, List.append_assoc])
  have ho := o3
  rw [he2] at ho
  exact ⟨_, hh, _, rfl, by rw [hq]; exact ⟨_, rfl, ho.lo hwN, hB⟩⟩
theorem gT (i e s n h g gg : Value) (z : Pk) (w : World) (hi : RdB w i z.init) (he : RdB w e z.leaf.enc) (hs : RdB w s z.leaf.sig) (hn : RdB w n z.leaf.name) (hh : RdB w h z.leaf.hash) (hg : RdB w g z.leaf.sg) (hgg : RdB w gg z.sg) : Rets Try.prog 29 [.agg [i, e, s, n, .int .i64 z.leaf.src, h, g, gg].toArray] w (fun r w' => ∃ u, r = .tuple #[u, .int .i64 (bif pkOk z then 0 else 1)] ∧ OwnB w' w.heap.size u (bif pkOk z then pkB z else []) ∧ Keep [] w w') := by
  have hB : Keep [] w w := Keep.refl _ _
  refine ga Try.func29 rfl (by decide) Try.ntmps29 rfl (fun fin hfin hpan => a5 (aZ (ah (bc (cs := [i, e, s, n, .int .i64 z.leaf.src, h, g, gg]) rfl rfl) rfl ?_)))
  rintro _ w1 ⟨b1, rfl, eb1, hb1, k1, z1⟩
  have ge_b1 : w.heap.size ≤ b1 := by have := hB.size; omega
  replace hB := hB.trans k1
  clear eb1 z1
  refine oga rfl rfl (ah (bG cX) rfl ?_)
  rintro _ w2 ⟨b2, rfl, eb2, hb2, k2, z2⟩
  have ge_b2 : w.heap.size ≤ b2 := by have := hB.size; omega
  have ne_b1_b2 : b1 ≠ b2 := by have := hb1.lt; omega
  obtain ⟨hB, hb1⟩ := bX k2 hB hb1
  clear eb2 z2
  refine a6 (a5 (aZ (kD rfl (a6 (a5 (aZ (a7 (au (cs' := [_, _, _, _, _, _, _, _]) fu cg rfl hb1 rfl rfl) rfl ?_)))))))
  refine cw rfl (lB _ _ _ _ _ _ _ z _ (by first | assumption | exact Own.rd (by assumption) | exact Rd.oC (by assumption) hB | exact Own.rd (Own.oC (by assumption) hB)) (by first | assumption | exact Own.rd (by assumption) | exact Rd.oC (by assumption) hB | exact Own.rd (Own.oC (by assumption) hB)) (by first | assumption | exact Own.rd (by assumption) | exact Rd.oC (by assumption) hB | exact Own.rd (Own.oC (by assumption) hB)) (by first | assumption | exact Own.rd (by assumption) | exact Rd.oC (by assumption) hB | exact Own.rd (Own.oC (by assumption) hB)) (by first | assumption | exact Own.rd (by assumption) | exact Rd.oC (by assumption) hB | exact Own.rd (Own.oC (by assumption) hB)) (by first | assumption | exact Own.rd (by assumption) | exact Rd.oC (by assumption) hB | exact Own.rd (Own.oC (by assumption) hB)) (by first | assumption | exact Own.rd (by assumption) | exact Rd.oC (by assumption) hB | exact Own.rd (Own.oC (by assumption) hB))) rfl (fun hq w3 k3 => ?_) (fun hq w3 k3 a ha => hpan _ a w3 (by have hb := hb2.oC k3; refine iP (S := fun w'' => Bk w'' b2 36 [.int .i64 1] ∧ Keep [b2] w3 w'') ha.defers fY (gj b2 _ 1 _ hb) (fun w'' hS => ?_); have e := ha.get 2 _ rfl; have hh := ee Try.results29 (ha.get 3 _ rfl) (dx jt hS.1 rfl); rw [e] at hh; exact ⟨_, hh, _, rfl, by rw [hq]; exact ⟨_, rfl, a8 _ _ _ _, (hB.trans k3).new hS.2 (nw ge_b2)⟩⟩))
  obtain ⟨hB, hb1, hb2⟩ := cS k3 hB hb1 hb2
  have hbnd := dj hq
  refine a6 (a5 (aZ ?_))
  have ltN_b1 := hb1.lt
  have ltN_b2 := hb2.lt
  have hwN := hB.size
  have hBN := hB
  refine ah (ab (vs := []) rfl (f8 _)) rfl ?_
  rintro _ w4 ⟨p, q, rfl, ⟨hb90, hb91, o90, ⟨ge_p, ge_q, ne_p_q⟩, hvo⟩, k4⟩
  have hN := k4
  have ne_q_p := Ne.symm ne_p_q
  obtain ⟨hB, hb1, hb2⟩ := cS k4 hB hb1 hb2
  refine oga rfl rfl (a6 (a5 (aZ (ogm rfl rfl (a7 (au (cs' := [_, _, _, _, _, _, _, _]) fu cg rfl hb1 rfl rfl) rfl ?_)))))
  have hlen : (([] : List UInt8)).length ≤ 1000 := by (try simp only [List.length_append, List.length_nil]); omega
  have lt_hb1_v1 := hb1.lt
  have lt_hb2_v1 := hb2.lt
  refine ah (ab rfl (kh w3 _ hN p q (.slice none 0 0) ([] : List UInt8) i e s n h g gg z (hi.oC hBN) (he.oC hBN) (hs.oC hBN) (hn.oC hBN) (hh.oC hBN) (hg.oC hBN) (hgg.oC hBN) hq  ⟨hb90, hb91, o90, ⟨ge_p, ge_q, ne_p_q⟩, hvo⟩ hlen)) rfl ?_
  rintro _ w5 ⟨rfl, v1, ⟨hb3, hb4, o1, _, hv1⟩, k5, lb1⟩
  replace hN := hN.new k5 (fun x hx => (List.mem_cons.1 hx).elim (fun e => .inl (e ▸ ge_q)) (fun h => .inl (o90.blk x h).1))
  replace hB := hB.new k5 (fun x hx => .inl ((List.mem_cons.1 hx).elim (fun e => e ▸ Nat.le_trans hwN ge_q) (fun h => Nat.le_trans hwN (o90.blk x h).1)))
  replace hb1 := hb1.keep k5 (fun hm => (List.mem_cons.1 hm).elim (fun e => absurd e (by omega)) (fun h => absurd (o90.blk _ h).1 (by omega)))
  replace hb2 := hb2.keep k5 (fun hm => (List.mem_cons.1 hm).elim (fun e => absurd e (by omega)) (fun h => absurd (o90.blk _ h).1 (by omega)))
  replace hvo := hv1
  clear lb1
  refine a6 (a5 (ca 7 [0, 1, 2, 3, 4, 5, 6] [6] [] [] mixed [(4, _), (1, _), (3, _)] ⟨rfl, rfl, rfl, trivial⟩ (by show planOkA 23 _ _ _ _ _ = true; decide +kernel) (by decide) (by decide) ?_ (fun x hx => by cases hx) rfl (fun w6 k6 => ?_)))
  · intro q hq; cases hq
  obtain ⟨hb3, hb4⟩ := cm k6 hb3 hb4
  replace o1 := o1.oC k6
  obtain ⟨hB, hb1, hb2⟩ := cS k6 hB hb1 hb2
  replace hN := hN.trans k6
  refine eC 4 rfl rfl rfl rfl rfl (ba 11 rfl rfl rfl rfl (fun W' kk => ao rfl) (ba 12 rfl rfl rfl rfl (fun W' kk => ak aO rfl gZ (by decide) rfl) (ba 13 rfl rfl rfl rfl (fun W' kk => ae iu rfl (Bk.oC hb4 kk) rfl) (ba 1 rfl rfl rfl rfl (fun W' kk => ak aL rfl am (by decide) rfl) (ba 15 rfl rfl rfl rfl (fun W' kk => ae aw rfl (Bk.oC hb1 kk) rfl) (fo [(16, _)] rfl rfl ⟨rfl, trivial⟩ rfl (fun w8 k8 => ?_)))))))
  obtain ⟨hb3, hb4⟩ := cm k8 hb3 hb4
  replace o1 := o1.oC k8
  obtain ⟨hB, hb1, hb2⟩ := cS k8 hB hb1 hb2
  replace hN := hN.trans k8
  refine (cf (m := 1) (ls := [z.sg]) (xs := [.tmp 16]) (us := [_]) aJ am rfl rfl (bL (by first | exact Rd.nil _ _ | exact (by first | assumption | exact Own.rd (by assumption) | exact Rd.oC (by assumption) hB | exact Own.rd (Own.oC (by assumption) hB))) (bb _)) rfl rfl).mono ?_
  rintro v2 w7 ⟨sl1, k7⟩
  refine ⟨k7, (fun x hx => ⟨.inr (sl1.vblk x (sl1.cblk ▸ hx)).1, (sl1.vblk x (sl1.cblk ▸ hx)).2⟩), ?_⟩
  obtain ⟨hb3, hb4⟩ := cm k7 hb3 hb4
  replace o1 := o1.oC k7
  obtain ⟨hB, hb1, hb2⟩ := cS k7 hB hb1 hb2
  replace hN := hN.trans k7
  refine dW (fun w9 k9 => ?_)
  obtain ⟨hb3, hb4⟩ := cm k9 hb3 hb4
  replace o1 := o1.oC k9
  obtain ⟨hb1, hb2⟩ := cm k9 hb1 hb2
  replace sl1 := sl1.oC k9
  replace hB := hB.trans k9
  replace hN := hN.trans k9
  refine ce ?_
  have hsg := fv (a := z.sg) (by omega)
  have hbl := fM hq
  have hb1l := hsg.2
  have hlen : (([] : List UInt8) ++ pkOffer z).length + (vecsB [z.sg]).length ≤ 140737488355328 := by (try simp only [List.length_append, List.length_nil]); omega
  have lt_hb1_v3 := hb1.lt
  have lt_hb2_v3 := hb2.lt
  refine ah (dd (cs := [.pointer (some ⟨p, 0, none⟩)]) rfl rfl (eJ w3 _ hN p q v1 (([] : List UInt8) ++ pkOffer z) _ [z.sg] _ sl1 (.inr (by simp))  ⟨hb3, hb4, o1, ⟨ge_p, ge_q, ne_p_q⟩, hvo⟩ hlen)) rfl ?_
  rintro _ w10 ⟨rfl, v3, ⟨hb5, hb6, o3, _, hv2⟩, k10, lb2⟩
  replace hN := hN.new k10 (fun x hx => (List.mem_cons.1 hx).elim (fun e => .inl (e ▸ ge_q)) (fun h => .inl (o1.blk x h).1))
  replace hB := hB.new k10 (fun x hx => .inl ((List.mem_cons.1 hx).elim (fun e => e ▸ Nat.le_trans hwN ge_q) (fun h => Nat.le_trans hwN (o1.blk x h).1)))
  replace hb2 := hb2.keep k10 (fun hm => (List.mem_cons.1 hm).elim (fun e => absurd e (by omega)) (fun h => absurd (o1.blk _ h).1 (by omega)))
  replace hvo := hv2
  clear lb2
  refine a6 (a5 (aZ (ogm rfl rfl (a7 (ao rfl) rfl (a7 (ak aO rfl am (by decide) rfl) rfl (a7 (ae aw rfl hb6 rfl) rfl (oga rfl rfl (an (bV cX rfl rfl rfl hb2 rfl) ?_))))))))
  rintro _ w11 ⟨hb7, k11, z3⟩
  replace o3 := o3.keep k11 (fun x hx hm => (fun x hx => (show x ≠ b2 from by have := (o3.blk x hx).1; omega)) x hx (List.mem_singleton.1 hm))
  replace hB := hB.new k11 (nw ge_b2)
  clear z3
  replace hb7 : Bk w11 b2 _ [.int .i64 0] := hb7
  refine a6 (af [(3, _), (2, _)] ⟨rfl, rfl, trivial⟩ (l8 (fun a ha => (hfin a _ (iO (S := fun w'' => w'' = w11) ha.defers fY (gk b2 _) (fun w'' hS => ?_))).1)))
  subst hS
  have e := ha.get 2 _ rfl
  have hh := ee Try.results29 (ha.get 3 _ rfl) (dx jt hb7 rfl)
  rw [e] at hh
  have he2 : ([] : List UInt8) ++ pkOffer z ++ vecsB [z.sg] = pkB z := (by unfold pkB; rw [hsg.1]; simp only [List.nil_append, List.append_assoc])
  have ho := o3
  rw [he2] at ho
  exact ⟨_, hh, _, rfl, by rw [hq]; exact ⟨_, rfl, ho.lo hwN, hB⟩⟩
theorem iz (p : Nat) (rest : List UInt8) (e : Int) (w : World) (h : Rdr w p rest e) : Rets Try.prog 37 [.pointer (some ⟨p, 0, none⟩), .int .i64 1] w (fun v w' => v = .int .i64 (rNum 8 rest e 1).1 ∧ Rdr w' p (rNum 8 rest e 1).2.1 (rNum 8 rest e 1).2.2 ∧ Keep [p] w w') := by
  refine (dy p rest e 1 w h (by decide)).mono ?_
  rintro v w' ⟨r, hr, h1, h2, h3⟩
  rw [show bitsOf 1 = 8 from by decide] at hr; subst hr; exact ⟨h1, h2, h3⟩
theorem fz (w wS : World) (hB : Keep [] w wS) (r : Nat) (rest : List UInt8) (e : Int) (hr0 : w.heap.size ≤ r) (rr : Rdr wS r rest e) (hx : rest.length ≤ 140737488351232) : Rets Try.prog 80 [.pointer (some ⟨r, 0, none⟩)] wS (fun v w' => ∃ a b c h g, v = .agg [a, b, c, .int .i64 (rLeaf rest e).1.src, h, g].toArray ∧ OwnB w' wS.heap.size a (rLeaf rest e).1.enc ∧ OwnB w' wS.heap.size b (rLeaf rest e).1.sig ∧ OwnB w' wS.heap.size c (rLeaf rest e).1.name ∧ OwnB w' wS.heap.size h (rLeaf rest e).1.hash ∧ OwnB w' wS.heap.size g (rLeaf rest e).1.sg ∧ Rdr w' r (rLeaf rest e).2.1 (rLeaf rest e).2.2 ∧ Keep [] w w' ∧ Keep [r] wS w') := by
 have hK : Keep [r] wS wS := Keep.refl _ _
 obtain ⟨z1, z2, z3, z4, z5⟩ := fU rest e
 refine ai Try.func80 rfl (by decide) Try.ntmps80 rfl (fun fin _ hfin => a5 (aZ ?_))
 have lr2 := rr.lt
 refine ah (bG bk) rfl ?_
 rintro _ w1 ⟨b1, rfl, eb1, hb1, k1, z1⟩
 have rlt2 : r < b1 := by omega
 have geS_b1 : wS.heap.size ≤ b1 := by have := hK.size; omega
 have ge_b1 : w.heap.size ≤ b1 := by have := hB.size; omega
 replace rr := rr.oC k1
 replace hB := hB.trans k1
 replace hK := hK.trans k1.weak
 clear eb1 z1
 refine a6 (a5 (aZ (ogm rfl rfl ?_)))
 have lv_km1 := rr.lt
 refine ah (ab (vs := [_]) rfl (bQ r rest e _ rr (by omega))) rfl ?_
 rintro v1 w2 ⟨_, rfl, o1, rr, km1⟩
 have gl_o1 := hB.size
 have sb_b1_o1 := fun x hx => (show x ≠ b1 from by have h1 := (o1.blk x hx).1; have h2 := hb1.lt; omega)
 have gS_o1 := hK.size
 have z_km1 := km1.size
 replace hb1 := hb1.keep km1 (fun hm => by have h9 := List.mem_singleton.1 hm; omega)
 replace hB := hB.new km1 (fun x hm => .inl (by have h9 := List.mem_singleton.1 hm; omega))
 replace hK := hK.trans km1
 refine ogm rfl rfl ?_
 have lv_km2 := rr.lt
 refine ah (ab (vs := [_]) rfl (bQ r ((rVec rest e).2.1) ((rVec rest e).2.2) _ rr (by have := bS rest e; omega))) rfl ?_
 rintro v2 w3 ⟨_, rfl, o2, rr, km2⟩
 have gl_o2 := hB.size
 have sb_b1_o2 := fun x hx => (show x ≠ b1 from by have h1 := (o2.blk x hx).1; have h2 := hb1.lt; omega)
 have gS_o2 := hK.size
 have z_km2 := km2.size
 replace hb1 := hb1.keep km2 (fun hm => by have h9 := List.mem_singleton.1 hm; omega)
 replace o1 := o1.keep km2 (fun x hx hm => by have h9 := List.mem_singleton.1 hm; have h8 := (o1.blk x hx).1; omega)
 replace hB := hB.new km2 (fun x hm => .inl (by have h9 := List.mem_singleton.1 hm; omega))
 replace hK := hK.trans km2
 have rr : Rdr w3 r (rLeafB rest e).2.1 (rLeafB rest e).2.2 := rr
 replace o2 : OwnB w3 w2.heap.size v2 (rLeafB rest e).1 := o2
 refine ogm rfl rfl ?_
 have lv_km3 := rr.lt
 refine ah (ab (vs := [_]) rfl (bQ r ((rLeafB rest e).2.1) ((rLeafB rest e).2.2) _ rr (by omega))) rfl ?_
 rintro v3 w4 ⟨_, rfl, o3, rr, km3⟩
 have gl_o3 := hB.size
 have sb_b1_o3 := fun x hx => (show x ≠ b1 from by have h1 := (o3.blk x hx).1; have h2 := hb1.lt; omega)
 have gS_o3 := hK.size
 have z_km3 := km3.size
 replace hb1 := hb1.keep km3 (fun hm => by have h9 := List.mem_singleton.1 hm; omega)
 replace o1 := o1.keep km3 (fun x hx hm => by have h9 := List.mem_singleton.1 hm; have h8 := (o1.blk x hx).1; omega)
 replace o2 := o2.keep km3 (fun x hx hm => by have h9 := List.mem_singleton.1 hm; have h8 := (o2.blk x hx).1; omega)
 replace hB := hB.new km3 (fun x hm => .inl (by have h9 := List.mem_singleton.1 hm; omega))
 replace hK := hK.trans km3
 have rr : Rdr w4 r (rLeafC rest e).2.1 (rLeafC rest e).2.2 := rr
 replace o3 : OwnB w4 w3.heap.size v3 (rLeafC rest e).1 := o3
 refine ogm rfl rfl ?_
 have lv_km4 := rr.lt
 refine ah (ab (vs := [_, _]) rfl (iz r ((rLeafC rest e).2.1) ((rLeafC rest e).2.2) _ rr)) rfl ?_
 rintro _ w5 ⟨rfl, rr, km4⟩
 have z_km4 := km4.size
 replace hb1 := hb1.keep km4 (fun hm => by have h9 := List.mem_singleton.1 hm; omega)
 replace o1 := o1.keep km4 (fun x hx hm => by have h9 := List.mem_singleton.1 hm; have h8 := (o1.blk x hx).1; omega)
 replace o2 := o2.keep km4 (fun x hx hm => by have h9 := List.mem_singleton.1 hm; have h8 := (o2.blk x hx).1; omega)
 replace o3 := o3.keep km4 (fun x hx hm => by have h9 := List.mem_singleton.1 hm; have h8 := (o3.blk x hx).1; omega)
 replace hB := hB.new km4 (fun x hm => .inl (by have h9 := List.mem_singleton.1 hm; omega))
 replace hK := hK.trans km4
 have rr : Rdr w5 r (rLeafD rest e).2.1 (rLeafD rest e).2.2 := rr
 show OW _ _ _ _ _ _ ((11, .int .i64 (rLeafD rest e).1) :: _) _
 refine a7 (cA (idx := [0, 1, 2, 3]) (xs := [.tmp 5, .tmp 7, .tmp 9, .tmp 11]) (vs := [_, _, _, _]) (css := [[_], [_], [_], [_]]) (out := [_, _, _, _, _, _]) pl30 bk rfl rfl ⟨Rd.cells (by first | assumption | exact Own.rd ‹_› | exact Rd.oC ‹_› hB | exact Own.rd (Own.oC ‹_› hB)), Rd.cells (by first | assumption | exact Own.rd ‹_› | exact Rd.oC ‹_› hB | exact Own.rd (Own.oC ‹_› hB)), Rd.cells (by first | assumption | exact Own.rd ‹_› | exact Rd.oC ‹_› hB | exact Own.rd (Own.oC ‹_› hB)), rfl, trivial⟩ rfl rfl) rfl ?_
 have lr3 := rr.lt
 refine ah (bG bk) rfl ?_
 rintro _ w6 ⟨b2, rfl, eb2, hb2, k2, z2⟩
 have rlt3 : r < b2 := by omega
 have geS_b2 : wS.heap.size ≤ b2 := by have := hK.size; omega
 have ge_b2 : w.heap.size ≤ b2 := by have := hB.size; omega
 have ne_b1_b2 : b1 ≠ b2 := by have := hb1.lt; omega
 have sb_b2_o1 := fun x hx => (show x ≠ b2 from by have := (o1.blk x hx).2; omega)
 have sb_b2_o2 := fun x hx => (show x ≠ b2 from by have := (o2.blk x hx).2; omega)
 have sb_b2_o3 := fun x hx => (show x ≠ b2 from by have := (o3.blk x hx).2; omega)
 replace rr := rr.oC k2
 replace hb1 := hb1.oC k2
 replace o1 := o1.oC k2
 replace o2 := o2.oC k2
 replace o3 := o3.oC k2
 replace hB := hB.trans k2
 replace hK := hK.trans k2.weak
 clear eb2 z2
 refine an (bK bk rfl rfl rfl (by simp only [List.forall_mem_cons]; refine ⟨(by first | rfl | exact Rd.one (by first | assumption | exact Own.rd ‹_› | exact Rd.oC ‹_› hB | exact Own.rd (Own.oC ‹_› hB))), (by first | rfl | exact Rd.one (by first | assumption | exact Own.rd ‹_› | exact Rd.oC ‹_› hB | exact Own.rd (Own.oC ‹_› hB))), (by first | rfl | exact Rd.one (by first | assumption | exact Own.rd ‹_› | exact Rd.oC ‹_› hB | exact Own.rd (Own.oC ‹_› hB))), (by first | rfl | exact Rd.one (by first | assumption | exact Own.rd ‹_› | exact Rd.oC ‹_› hB | exact Own.rd (Own.oC ‹_› hB))), (by first | rfl | exact Rd.one (by first | assumption | exact Own.rd ‹_› | exact Rd.oC ‹_› hB | exact Own.rd (Own.oC ‹_› hB))), (by first | rfl | exact Rd.one (by first | assumption | exact Own.rd ‹_› | exact Rd.oC ‹_› hB | exact Own.rd (Own.oC ‹_› hB))), fun v hv => by cases hv⟩) hb2 rfl) ?_
 rintro _ w7 ⟨hb3, k3, z3⟩
 replace rr := rr.keep k3 (fun x hx hm => (fun x (hx : x ≤ r) => (show x ≠ b2 from by omega)) x hx (List.mem_singleton.1 hm))
 replace hb1 := hb1.keep k3 (nm ne_b1_b2)
 replace o1 := o1.keep k3 (fun x hx hm => sb_b2_o1 x hx (List.mem_singleton.1 hm))
 replace o2 := o2.keep k3 (fun x hx hm => sb_b2_o2 x hx (List.mem_singleton.1 hm))
 replace o3 := o3.keep k3 (fun x hx hm => sb_b2_o3 x hx (List.mem_singleton.1 hm))
 replace hB := hB.new k3 (nw ge_b2)
 replace hK := hK.new k3 (nw geS_b2)
 clear z3
 replace hb3 : Bk w7 b2 _ [v1, v2, v3, .int .i64 (rLeafD rest e).1, .slice none 0 0, .slice none 0 0] := hb3
 refine a6 (a5 (a5 (aZ (a7 (ak aE rfl bh (by decide) rfl) rfl (a7 (ae cY rfl hb3 rfl) rfl (a7 (bE rfl rfl) rfl (a6 (af [(0, _), (2, _), (3, _), (15, _)] ⟨rfl, rfl, rfl, rfl, trivial⟩ (bF rfl (fun hc1 => ?_) (fun hc1 => ?_))))))))))
 ·
  refine aZ (ogm rfl rfl ?_)
  have lv_km5 := rr.lt
  refine ah (ab (vs := [_]) rfl (bQ r ((rLeafD rest e).2.1) ((rLeafD rest e).2.2) _ rr (by omega))) rfl ?_
  rintro v4 w8 ⟨_, rfl, o4, rr, km5⟩
  have gl_o4 := hB.size
  have sb_b1_o4 := fun x hx => (show x ≠ b1 from by have h1 := (o4.blk x hx).1; have h2 := hb1.lt; omega)
  have sb_b2_o4 := fun x hx => (show x ≠ b2 from by have h1 := (o4.blk x hx).1; have h2 := hb3.lt; omega)
  have gS_o4 := hK.size
  have z_km5 := km5.size
  replace hb1 := hb1.keep km5 (fun hm => by have h9 := List.mem_singleton.1 hm; omega)
  replace o1 := o1.keep km5 (fun x hx hm => by have h9 := List.mem_singleton.1 hm; have h8 := (o1.blk x hx).1; omega)
  replace o2 := o2.keep km5 (fun x hx hm => by have h9 := List.mem_singleton.1 hm; have h8 := (o2.blk x hx).1; omega)
  replace o3 := o3.keep km5 (fun x hx hm => by have h9 := List.mem_singleton.1 hm; have h8 := (o3.blk x hx).1; omega)
  replace hb3 := hb3.keep km5 (fun hm => by have h9 := List.mem_singleton.1 hm; omega)
  replace hB := hB.new km5 (fun x hm => .inl (by have h9 := List.mem_singleton.1 hm; omega))
  replace hK := hK.trans km5
  have rr : Rdr w8 r (rLeafH rest e).2.1 (rLeafH rest e).2.2 := by rw [di ‹_›]; exact rr
  replace o4 : OwnB w8 w7.heap.size v4 (rLeafH rest e).1 := by rw [di ‹_›]; exact o4
  refine a7 (ak aE rfl am (by decide) rfl) rfl (an (bV am rfl rfl (Rd.one (by first | assumption | exact Own.rd ‹_› | exact Rd.oC ‹_› hB | exact Own.rd (Own.oC ‹_› hB))) hb3 rfl) ?_)
  rintro _ w9 ⟨hb4, k4, z4⟩
  replace rr := rr.keep k4 (fun x hx hm => (fun x (hx : x ≤ r) => (show x ≠ b2 from by omega)) x hx (List.mem_singleton.1 hm))
  replace hb1 := hb1.keep k4 (nm ne_b1_b2)
  replace o1 := o1.keep k4 (fun x hx hm => sb_b2_o1 x hx (List.mem_singleton.1 hm))
  replace o2 := o2.keep k4 (fun x hx hm => sb_b2_o2 x hx (List.mem_singleton.1 hm))
  replace o3 := o3.keep k4 (fun x hx hm => sb_b2_o3 x hx (List.mem_singleton.1 hm))
  replace o4 := o4.keep k4 (fun x hx hm => sb_b2_o4 x hx (List.mem_singleton.1 hm))
  replace hB := hB.new k4 (nw ge_b2)
  replace hK := hK.new k4 (nw geS_b2)
  clear z4
  replace hb4 : Bk w9 b2 _ [v1, v2, v3, .int .i64 (rLeafD rest e).1, v4, .slice none 0 0] := hb4
  refine a6 (a5 (aZ (ogm rfl rfl ?_)))
  have lv_km6 := rr.lt
  refine ah (ab (vs := [_]) rfl (bQ r ((rLeafH rest e).2.1) ((rLeafH rest e).2.2) _ rr (by omega))) rfl ?_
  rintro v5 w10 ⟨_, rfl, o5, rr, km6⟩
  have gl_o5 := hB.size
  have sb_b1_o5 := fun x hx => (show x ≠ b1 from by have h1 := (o5.blk x hx).1; have h2 := hb1.lt; omega)
  have sb_b2_o5 := fun x hx => (show x ≠ b2 from by have h1 := (o5.blk x hx).1; have h2 := hb4.lt; omega)
  have gS_o5 := hK.size
  have z_km6 := km6.size
  replace hb1 := hb1.keep km6 (fun hm => by have h9 := List.mem_singleton.1 hm; omega)
  replace o1 := o1.keep km6 (fun x hx hm => by have h9 := List.mem_singleton.1 hm; have h8 := (o1.blk x hx).1; omega)
  replace o2 := o2.keep km6 (fun x hx hm => by have h9 := List.mem_singleton.1 hm; have h8 := (o2.blk x hx).1; omega)
  replace o3 := o3.keep km6 (fun x hx hm => by have h9 := List.mem_singleton.1 hm; have h8 := (o3.blk x hx).1; omega)
  replace o4 := o4.keep km6 (fun x hx hm => by have h9 := List.mem_singleton.1 hm; have h8 := (o4.blk x hx).1; omega)
  replace hb4 := hb4.keep km6 (fun hm => by have h9 := List.mem_singleton.1 hm; omega)
  replace hB := hB.new km6 (fun x hm => .inl (by have h9 := List.mem_singleton.1 hm; omega))
  replace hK := hK.trans km6
  have rr : Rdr w10 r (rLeafG rest e).2.1 (rLeafG rest e).2.2 := rr
  replace o5 : OwnB w10 w9.heap.size v5 (rLeafG rest e).1 := o5
  refine a7 (ak aE rfl am (by decide) rfl) rfl (an (bV am rfl rfl (Rd.one (by first | assumption | exact Own.rd ‹_› | exact Rd.oC ‹_› hB | exact Own.rd (Own.oC ‹_› hB))) hb4 rfl) ?_)
  rintro _ w11 ⟨hb5, k5, z5⟩
  replace rr := rr.keep k5 (fun x hx hm => (fun x (hx : x ≤ r) => (show x ≠ b2 from by omega)) x hx (List.mem_singleton.1 hm))
  replace hb1 := hb1.keep k5 (nm ne_b1_b2)
  replace o1 := o1.keep k5 (fun x hx hm => sb_b2_o1 x hx (List.mem_singleton.1 hm))
  replace o2 := o2.keep k5 (fun x hx hm => sb_b2_o2 x hx (List.mem_singleton.1 hm))
  replace o3 := o3.keep k5 (fun x hx hm => sb_b2_o3 x hx (List.mem_singleton.1 hm))
  replace o4 := o4.keep k5 (fun x hx hm => sb_b2_o4 x hx (List.mem_singleton.1 hm))
  replace o5 := o5.keep k5 (fun x hx hm => sb_b2_o5 x hx (List.mem_singleton.1 hm))
  replace hB := hB.new k5 (nw ge_b2)
  replace hK := hK.new k5 (nw geS_b2)
  clear z5
  replace hb5 : Bk w11 b2 _ [v1, v2, v3, .int .i64 (rLeafD rest e).1, v4, v5] := hb5
  refine a6 (a5 (aZ (a7 (au (cs' := [_, _, _, _, _, _]) dt bk rfl hb5 rfl rfl) rfl (an (bK bk rfl rfl rfl (by simp only [List.forall_mem_cons]; refine ⟨(by first | rfl | exact Rd.one (by first | assumption | exact Own.rd ‹_› | exact Rd.oC ‹_› hB | exact Own.rd (Own.oC ‹_› hB))), (by first | rfl | exact Rd.one (by first | assumption | exact Own.rd ‹_› | exact Rd.oC ‹_› hB | exact Own.rd (Own.oC ‹_› hB))), (by first | rfl | exact Rd.one (by first | assumption | exact Own.rd ‹_› | exact Rd.oC ‹_› hB | exact Own.rd (Own.oC ‹_› hB))), (by first | rfl | exact Rd.one (by first | assumption | exact Own.rd ‹_› | exact Rd.oC ‹_› hB | exact Own.rd (Own.oC ‹_› hB))), (by first | rfl | exact Rd.one (by first | assumption | exact Own.rd ‹_› | exact Rd.oC ‹_› hB | exact Own.rd (Own.oC ‹_› hB))), (by first | rfl | exact Rd.one (by first | assumption | exact Own.rd ‹_› | exact Rd.oC ‹_› hB | exact Own.rd (Own.oC ‹_› hB))), fun v hv => by cases hv⟩) hb1 rfl) ?_))))
  rintro _ w12 ⟨hb6, k6, z6⟩
  replace rr := rr.keep k6 (fun x hx hm => (fun x (hx : x ≤ r) => (show x ≠ b1 from by omega)) x hx (List.mem_singleton.1 hm))
  replace o1 := o1.keep k6 (fun x hx hm => sb_b1_o1 x hx (List.mem_singleton.1 hm))
  replace o2 := o2.keep k6 (fun x hx hm => sb_b1_o2 x hx (List.mem_singleton.1 hm))
  replace o3 := o3.keep k6 (fun x hx hm => sb_b1_o3 x hx (List.mem_singleton.1 hm))
  replace o4 := o4.keep k6 (fun x hx hm => sb_b1_o4 x hx (List.mem_singleton.1 hm))
  replace o5 := o5.keep k6 (fun x hx hm => sb_b1_o5 x hx (List.mem_singleton.1 hm))
  replace hb5 := hb5.keep k6 (nm (Ne.symm ne_b1_b2))
  replace hB := hB.new k6 (nw ge_b1)
  replace hK := hK.new k6 (nw geS_b1)
  clear z6
  replace hb6 : Bk w12 b1 _ [v1, v2, v3, .int .i64 (rLeafD rest e).1, v4, v5] := hb6
  refine a6 (af [(2, _)] ⟨rfl, trivial⟩ (dw hfin Try.results80 rfl (ar dt bk hb6 rfl)  ?_))
  exact ⟨_, _, _, _, _, rfl, o1.lo gS_o1, o2.lo gS_o2, o3.lo gS_o3, (o4.lo gS_o4), o5.lo gS_o5, rr, hB, hK⟩
 ·
  refine aj (a5 (aZ (ogm rfl rfl ?_)))
  have rr : Rdr w7 r (rLeafH rest e).2.1 (rLeafH rest e).2.2 := by rw [dh ‹_›]; exact rr
  have lv_km7 := rr.lt
  refine ah (ab (vs := [_]) rfl (bQ r ((rLeafH rest e).2.1) ((rLeafH rest e).2.2) _ rr (by omega))) rfl ?_
  rintro v6 w13 ⟨_, rfl, o6, rr, km7⟩
  have gl_o6 := hB.size
  have sb_b1_o6 := fun x hx => (show x ≠ b1 from by have h1 := (o6.blk x hx).1; have h2 := hb1.lt; omega)
  have sb_b2_o6 := fun x hx => (show x ≠ b2 from by have h1 := (o6.blk x hx).1; have h2 := hb3.lt; omega)
  have gS_o6 := hK.size
  have z_km7 := km7.size
  replace hb1 := hb1.keep km7 (fun hm => by have h9 := List.mem_singleton.1 hm; omega)
  replace o1 := o1.keep km7 (fun x hx hm => by have h9 := List.mem_singleton.1 hm; have h8 := (o1.blk x hx).1; omega)
  replace o2 := o2.keep km7 (fun x hx hm => by have h9 := List.mem_singleton.1 hm; have h8 := (o2.blk x hx).1; omega)
  replace o3 := o3.keep km7 (fun x hx hm => by have h9 := List.mem_singleton.1 hm; have h8 := (o3.blk x hx).1; omega)
  replace hb3 := hb3.keep km7 (fun hm => by have h9 := List.mem_singleton.1 hm; omega)
  replace hB := hB.new km7 (fun x hm => .inl (by have h9 := List.mem_singleton.1 hm; omega))
  replace hK := hK.trans km7
  have rr : Rdr w13 r (rLeafG rest e).2.1 (rLeafG rest e).2.2 := rr
  replace o6 : OwnB w13 w7.heap.size v6 (rLeafG rest e).1 := o6
  refine a7 (ak aE rfl am (by decide) rfl) rfl (an (bV am rfl rfl (Rd.one (by first | assumption | exact Own.rd ‹_› | exact Rd.oC ‹_› hB | exact Own.rd (Own.oC ‹_› hB))) hb3 rfl) ?_)
  rintro _ w14 ⟨hb7, k7, z7⟩
  replace rr := rr.keep k7 (fun x hx hm => (fun x (hx : x ≤ r) => (show x ≠ b2 from by omega)) x hx (List.mem_singleton.1 hm))
  replace hb1 := hb1.keep k7 (nm ne_b1_b2)
  replace o1 := o1.keep k7 (fun x hx hm => sb_b2_o1 x hx (List.mem_singleton.1 hm))
  replace o2 := o2.keep k7 (fun x hx hm => sb_b2_o2 x hx (List.mem_singleton.1 hm))
  replace o3 := o3.keep k7 (fun x hx hm => sb_b2_o3 x hx (List.mem_singleton.1 hm))
  replace o6 := o6.keep k7 (fun x hx hm => sb_b2_o6 x hx (List.mem_singleton.1 hm))
  replace hB := hB.new k7 (nw ge_b2)
  replace hK := hK.new k7 (nw geS_b2)
  clear z7
  replace hb7 : Bk w14 b2 _ [v1, v2, v3, .int .i64 (rLeafD rest e).1, .slice none 0 0, v6] := hb7
  refine a6 (a5 (aZ (a7 (au (cs' := [_, _, _, _, _, _]) dt bk rfl hb7 rfl rfl) rfl (an (bK bk rfl rfl rfl (by simp only [List.forall_mem_cons]; refine ⟨(by first | rfl | exact Rd.one (by first | assumption | exact Own.rd ‹_› | exact Rd.oC ‹_› hB | exact Own.rd (Own.oC ‹_› hB))), (by first | rfl | exact Rd.one (by first | assumption | exact Own.rd ‹_› | exact Rd.oC ‹_› hB | exact Own.rd (Own.oC ‹_› hB))), (by first | rfl | exact Rd.one (by first | assumption | exact Own.rd ‹_› | exact Rd.oC ‹_› hB | exact Own.rd (Own.oC ‹_› hB))), (by first | rfl | exact Rd.one (by first | assumption | exact Own.rd ‹_› | exact Rd.oC ‹_› hB | exact Own.rd (Own.oC ‹_› hB))), (by first | rfl | exact Rd.one (by first | assumption | exact Own.rd ‹_› | exact Rd.oC ‹_› hB | exact Own.rd (Own.oC ‹_› hB))), (by first | rfl | exact Rd.one (by first | assumption | exact Own.rd ‹_› | exact Rd.oC ‹_› hB | exact Own.rd (Own.oC ‹_› hB))), fun v hv => by cases hv⟩) hb1 rfl) ?_))))
  rintro _ w15 ⟨hb8, k8, z8⟩
  replace rr := rr.keep k8 (fun x hx hm => (fun x (hx : x ≤ r) => (show x ≠ b1 from by omega)) x hx (List.mem_singleton.1 hm))
  replace o1 := o1.keep k8 (fun x hx hm => sb_b1_o1 x hx (List.mem_singleton.1 hm))
  replace o2 := o2.keep k8 (fun x hx hm => sb_b1_o2 x hx (List.mem_singleton.1 hm))
  replace o3 := o3.keep k8 (fun x hx hm => sb_b1_o3 x hx (List.mem_singleton.1 hm))
  replace o6 := o6.keep k8 (fun x hx hm => sb_b1_o6 x hx (List.mem_singleton.1 hm))
  replace hb7 := hb7.keep k8 (nm (Ne.symm ne_b1_b2))
  replace hB := hB.new k8 (nw ge_b1)
  replace hK := hK.new k8 (nw geS_b1)
  clear z8
  replace hb8 : Bk w15 b1 _ [v1, v2, v3, .int .i64 (rLeafD rest e).1, .slice none 0 0, v6] := hb8
  refine a6 (dw hfin Try.results80 rfl (ar dt bk hb8 rfl)  ?_)
  exact ⟨_, _, _, _, _, rfl, o1.lo gS_o1, o2.lo gS_o2, o3.lo gS_o3, (by show OwnB _ _ _ (rLeafH rest e).1; rw [dh ‹_›]; exact a8 _ _ _ _), o6.lo gS_o6, rr, hB, hK⟩
theorem dm (v u : Value) (xs ys : List UInt8) (w : World) (hv : RdB w v xs) (hu : RdB w u ys) : Rets Try.prog 41 [v, u] w (fun r w' => r = .bool (decide (xs = ys)) ∧ w = w') := by
 refine ai Try.func41 rfl (by decide) Try.ntmps41 rfl (fun fin _ hfin => a5 (aZ (oga rfl rfl (a6 (a5 (aZ (ogm rfl rfl (a7 (br aA aG aI rfl (by first | assumption | exact Own.rd ‹_› | exact Rd.oC ‹_› hB | exact Own.rd (Own.oC ‹_› hB))) rfl (ogm rfl rfl (a7 (br aA aG aI rfl (by first | assumption | exact Own.rd ‹_› | exact Rd.oC ‹_› hB | exact Own.rd (Own.oC ‹_› hB))) rfl (a7 (eA rfl rfl) rfl (oga rfl rfl (a6 (al hfin Try.results41 rfl ?_))))))))))))))
 exact ⟨rfl, rfl⟩
theorem kQ (e s n h g : Value) (l : Lf) (w : World) (he : RdB w e l.enc) (hs : RdB w s l.sig) (hn : RdB w n l.name) (hh : RdB w h l.hash) (hg : RdB w g l.sg) (r : Nat) (rest : List UInt8) (er : Int) (rr : Rdr w r rest er) (v : Value) (c : List UInt8) (hv : RdB w v c) : Rets Try.prog 84 [.agg [e, s, n, .int .i64 l.src, h, g].toArray, .pointer (some ⟨r, 0, none⟩), .func (.func 30) #[] #[], v] w (fun r w' => r = .tuple #[(bif (decide (rEnd rest er = 0) && leafOk l && decide (leafB l = c)) then .agg [e, s, n, .int .i64 l.src, h, g].toArray else .agg [.slice none 0 0, .slice none 0 0, .slice none 0 0, .int .i64 0, .slice none 0 0, .slice none 0 0].toArray), .int .i64 (bif (decide (rEnd rest er = 0) && leafOk l && decide (leafB l = c)) then 0 else 21)] ∧ Keep [] w w') := by
 have hB : Keep [] w w := Keep.refl _ _
 refine ai Try.func84 rfl (by decide) Try.ntmps84 rfl (fun fin _ hfin => a5 (aZ (ah (bc (cs := [e, s, n, .int .i64 l.src, h, g]) rfl rfl) rfl ?_)))
 rintro _ w1 ⟨b1, rfl, eb1, hb1, k1, z1⟩
 have ge_b1 : w.heap.size ≤ b1 := by have := hB.size; omega
 replace rr := rr.oC k1
 replace hB := hB.trans k1
 clear eb1 z1
 have lr8 := rr.lt
 refine ah (bG bk) rfl ?_
 rintro _ w2 ⟨b2, rfl, eb2, hb2, k2, z2⟩
 have rlt8 : r < b2 := by omega
 have ge_b2 : w.heap.size ≤ b2 := by have := hB.size; omega
 have ne_b1_b2 : b1 ≠ b2 := by have := hb1.lt; omega
 replace rr := rr.oC k2
 obtain ⟨hB, hb1⟩ := bX k2 hB hb1
 clear eb2 z2
 refine oga rfl rfl (a6 (a5 (aZ ?_)))
 have lr10 := rr.lt
 refine ah (bG bk) rfl ?_
 rintro _ w3 ⟨b3, rfl, eb3, hb3, k3, z3⟩
 have rlt10 : r < b3 := by omega
 have ge_b3 : w.heap.size ≤ b3 := by have := hB.size; omega
 have ne_b1_b3 : b1 ≠ b3 := by have := hb1.lt; omega
 have ne_b2_b3 : b2 ≠ b3 := by have := hb2.lt; omega
 replace rr := rr.oC k3
 obtain ⟨hB, hb1, hb2⟩ := cS k3 hB hb1 hb2
 clear eb3 z3
 refine a6 (a5 (aZ (ogm rfl rfl (a7 (au (cs' := [_, _, _, _, _, _]) dt bk rfl hb1 rfl rfl) rfl (ah (gy rfl rfl (fK _ _ _ _ _ l _ (by first | assumption | exact Own.rd ‹_› | exact Rd.oC ‹_› hB | exact Own.rd (Own.oC ‹_› hB)) (by first | assumption | exact Own.rd ‹_› | exact Rd.oC ‹_› hB | exact Own.rd (Own.oC ‹_› hB)) (by first | assumption | exact Own.rd ‹_› | exact Rd.oC ‹_› hB | exact Own.rd (Own.oC ‹_› hB)) (by first | assumption | exact Own.rd ‹_› | exact Rd.oC ‹_› hB | exact Own.rd (Own.oC ‹_› hB)) (by first | assumption | exact Own.rd ‹_› | exact Rd.oC ‹_› hB | exact Own.rd (Own.oC ‹_› hB)))) rfl ?_)))))
 rintro _ w4 ⟨v1, rfl, o1, k4⟩
 have gl_o1 := hB.size
 have sb_b2_o1 := fun x hx => (show x ≠ b2 from by have h1 := (o1.blk x hx).1; have h2 := hb2.lt; omega)
 replace rr := rr.oC k4
 obtain ⟨hB, hb1, hb2, hb3⟩ := kq3 k4 hB hb1 hb2 hb3
 refine ogm rfl rfl (a7 (bH (vs := [_, _]) rfl rfl) rfl (a7 (bH (vs := [_, _]) rfl rfl) rfl (oga rfl rfl (oga rfl rfl (a6 (a5 (a5 (aZ (ogm rfl rfl (ah (ab (vs := [_]) rfl (lv _ _ _ _ rr)) rfl ?_))))))))))
 rintro _ _ ⟨rfl, rfl⟩
 refine a7 (bn rfl rfl) rfl (ogm rfl rfl (aq 22 false rfl (fun c1 hgc1 => a9 [(12, _)] (ad rfl rfl rfl hgc1) ⟨bB rfl, trivial⟩ (fun hw1 => bC rfl) rfl (a9 [(23, _)] (ad rfl rfl rfl hgc1) ⟨ag rfl, trivial⟩ (fun hw2 => bn rfl rfl) rfl (a7 (bP rfl rfl hgc1) rfl (ogm rfl rfl (aq 26 false rfl (fun c2 hgc2 => a9 [(11, _)] (ad rfl rfl rfl hgc2) ⟨bB rfl, trivial⟩ (fun hw3 => bC rfl) rfl (a9 [(3, _)] (ad rfl rfl rfl hgc2) ⟨bB rfl, trivial⟩ (fun hw4 => bC rfl) rfl (dk [(27, _), (28, _)] (ad rfl rfl rfl hgc2) ⟨ag rfl, ag rfl, trivial⟩ (fun hw5 => ab (vs := [_, _]) rfl (dm _ _ (bif leafOk l then leafB l else []) c _ o1.rd (hv.oC hB))) rfl ?_))))))))))
 refine a9 [(29, _)] (ad rfl rfl rfl hgc2) ⟨ag rfl, trivial⟩ (fun hw6 => eu rfl) rfl (a7 (bP rfl rfl hgc2) rfl (a6 (af [(4, _), (8, _), (10, _), (31, _)] ⟨rfl, rfl, rfl, rfl, trivial⟩ (bD rfl (fun hc1 => ?_) (fun hc1 => ?_)))))
 ·
  have hd1 := hc1
  try (simp only [Bool.and_eq_true, Bool.or_eq_true, decide_eq_true_eq, Bool.and_eq_false_iff, Bool.or_eq_false_iff, decide_eq_false_iff_not, Bool.not_eq_true', Bool.not_eq_false', Bool.not_eq_true, Bool.not_eq_false, ne_eq, Decidable.not_not, decide_true, decide_false, Bool.true_and, Bool.false_and, Bool.or_false, Bool.false_or, not_true_eq_false, false_or, or_false, true_and, and_true, not_false_eq_true, reduceCtorEq] at hd1)
  refine a5 (aZ (a7 (au (cs' := [_, _, _, _, _, _]) dt bk rfl hb3 rfl rfl) rfl (an (bK bk rfl rfl rfl (by simp only [List.forall_mem_cons]; refine ⟨rfl, rfl, rfl, rfl, rfl, rfl, fun v hv => by cases hv⟩) hb2 rfl) ?_)))
  rintro _ w5 ⟨hb4, k5, z4⟩
  replace rr := rr.keep k5 (fun x hx hm => (fun x (hx : x ≤ r) => (show x ≠ b2 from by omega)) x hx (List.mem_singleton.1 hm))
  replace hb1 := hb1.keep k5 (nm ne_b1_b2)
  replace hb3 := hb3.keep k5 (nm (Ne.symm ne_b2_b3))
  replace o1 := o1.keep k5 (fun x hx hm => sb_b2_o1 x hx (List.mem_singleton.1 hm))
  replace hB := hB.new k5 (nw ge_b2)
  clear z4
  replace hb4 : Bk w5 b2 _ [.slice none 0 0, .slice none 0 0, .slice none 0 0, .int .i64 0, .slice none 0 0, .slice none 0 0] := hb4
  refine oga rfl rfl (a6 (bJ hfin Try.results84 rfl (ar dt bk hb4 rfl) rfl ?_))
  have hok : (decide (rEnd rest er = 0) && leafOk l && decide (leafB l = c)) = false := by
   clear hfin
   by_cases h1 : rEnd rest er = 0 <;> cases hw : leafOk l <;> by_cases h2 : leafB l = c <;> simp_all
  exact ⟨by rw [hok]; rfl, hB⟩
 ·
  have hd2 := hc1
  try (simp only [Bool.and_eq_true, Bool.or_eq_true, decide_eq_true_eq, Bool.and_eq_false_iff, Bool.or_eq_false_iff, decide_eq_false_iff_not, Bool.not_eq_true', Bool.not_eq_false', Bool.not_eq_true, Bool.not_eq_false, ne_eq, Decidable.not_not, decide_true, decide_false, Bool.true_and, Bool.false_and, Bool.or_false, Bool.false_or, not_true_eq_false, false_or, or_false, true_and, and_true, not_false_eq_true, reduceCtorEq] at hd2)
  refine aj (a5 (aZ (a7 (au (cs' := [_, _, _, _, _, _]) dt bk rfl hb1 rfl rfl) rfl (an (bK bk rfl rfl rfl (by simp only [List.forall_mem_cons]; refine ⟨(by first | rfl | exact Rd.one (by first | assumption | exact Own.rd ‹_› | exact Rd.oC ‹_› hB | exact Own.rd (Own.oC ‹_› hB))), (by first | rfl | exact Rd.one (by first | assumption | exact Own.rd ‹_› | exact Rd.oC ‹_› hB | exact Own.rd (Own.oC ‹_› hB))), (by first | rfl | exact Rd.one (by first | assumption | exact Own.rd ‹_› | exact Rd.oC ‹_› hB | exact Own.rd (Own.oC ‹_› hB))), (by first | rfl | exact Rd.one (by first | assumption | exact Own.rd ‹_› | exact Rd.oC ‹_› hB | exact Own.rd (Own.oC ‹_› hB))), (by first | rfl | exact Rd.one (by first | assumption | exact Own.rd ‹_› | exact Rd.oC ‹_› hB | exact Own.rd (Own.oC ‹_› hB))), (by first | rfl | exact Rd.one (by first | assumption | exact Own.rd ‹_› | exact Rd.oC ‹_› hB | exact Own.rd (Own.oC ‹_› hB))), fun v hv => by cases hv⟩) hb2 rfl) ?_))))
  rintro _ w6 ⟨hb5, k6, z5⟩
  replace rr := rr.keep k6 (fun x hx hm => (fun x (hx : x ≤ r) => (show x ≠ b2 from by omega)) x hx (List.mem_singleton.1 hm))
  replace hB := hB.new k6 (nw ge_b2)
  clear z5
  replace hb5 : Bk w6 b2 _ [e, s, n, .int .i64 l.src, h, g] := hb5
  refine oga rfl rfl (a6 (bJ hfin Try.results84 rfl (ar dt bk hb5 rfl) rfl ?_))
  have hok : (decide (rEnd rest er = 0) && leafOk l && decide (leafB l = c)) = true := by
   clear hfin
   by_cases h1 : rEnd rest er = 0 <;> cases hw : leafOk l <;> by_cases h2 : leafB l = c <;> simp_all
  exact ⟨by rw [hok]; rfl, hB⟩
theorem mj (i e s n h g gg : Value) (z : Pk) (w : World) (hi : RdB w i z.init) (he : RdB w e z.leaf.enc) (hs : RdB w s z.leaf.sig) (hn : RdB w n z.leaf.name) (hh : RdB w h z.leaf.hash) (hg : RdB w g z.leaf.sg) (hgg : RdB w gg z.sg) (r : Nat) (rest : List UInt8) (er : Int) (rr : Rdr w r rest er) (v : Value) (c : List UInt8) (hv : RdB w v c) : Rets Try.prog 81 [.agg [i, e, s, n, .int .i64 z.leaf.src, h, g, gg].toArray, .pointer (some ⟨r, 0, none⟩), .func (.func 29) #[] #[], v] w (fun r w' => r = .tuple #[(bif (decide (rEnd rest er = 0) && pkOk z && decide (pkB z = c)) then .agg [i, e, s, n, .int .i64 z.leaf.src, h, g, gg].toArray else .agg [.slice none 0 0, .slice none 0 0, .slice none 0 0, .slice none 0 0, .int .i64 0, .slice none 0 0, .slice none 0 0, .slice none 0 0].toArray), .int .i64 (bif (decide (rEnd rest er = 0) && pkOk z && decide (pkB z = c)) then 0 else 21)] ∧ Keep [] w w') := by
 have hB : Keep [] w w := Keep.refl _ _
 refine ai Try.func81 rfl (by decide) Try.ntmps81 rfl (fun fin _ hfin => a5 (aZ (ah (bc (cs := [i, e, s, n, .int .i64 z.leaf.src, h, g, gg]) rfl rfl) rfl ?_)))
 rintro _ w1 ⟨b1, rfl, eb1, hb1, k1, z1⟩
 have ge_b1 : w.heap.size ≤ b1 := by have := hB.size; omega
 replace rr := rr.oC k1
 replace hB := hB.trans k1
 clear eb1 z1
 have lr8 := rr.lt
 refine ah (bG cg) rfl ?_
 rintro _ w2 ⟨b2, rfl, eb2, hb2, k2, z2⟩
 have rlt8 : r < b2 := by omega
 have ge_b2 : w.heap.size ≤ b2 := by have := hB.size; omega
 have ne_b1_b2 : b1 ≠ b2 := by have := hb1.lt; omega
 replace rr := rr.oC k2
 obtain ⟨hB, hb1⟩ := bX k2 hB hb1
 clear eb2 z2
 refine oga rfl rfl (a6 (a5 (aZ ?_)))
 have lr10 := rr.lt
 refine ah (bG cg) rfl ?_
 rintro _ w3 ⟨b3, rfl, eb3, hb3, k3, z3⟩
 have rlt10 : r < b3 := by omega
 have ge_b3 : w.heap.size ≤ b3 := by have := hB.size; omega
 have ne_b1_b3 : b1 ≠ b3 := by have := hb1.lt; omega
 have ne_b2_b3 : b2 ≠ b3 := by have := hb2.lt; omega
 replace rr := rr.oC k3
 obtain ⟨hB, hb1, hb2⟩ := cS k3 hB hb1 hb2
 clear eb3 z3
 refine a6 (a5 (aZ (ogm rfl rfl (a7 (au (cs' := [_, _, _, _, _, _, _, _]) fu cg rfl hb1 rfl rfl) rfl (ah (gy rfl rfl (gT _ _ _ _ _ _ _ z _ (by first | assumption | exact Own.rd ‹_› | exact Rd.oC ‹_› hB | exact Own.rd (Own.oC ‹_› hB)) (by first | assumption | exact Own.rd ‹_› | exact Rd.oC ‹_› hB | exact Own.rd (Own.oC ‹_› hB)) (by first | assumption | exact Own.rd ‹_› | exact Rd.oC ‹_› hB | exact Own.rd (Own.oC ‹_› hB)) (by first | assumption | exact Own.rd ‹_› | exact Rd.oC ‹_› hB | exact Own.rd (Own.oC ‹_› hB)) (by first | assumption | exact Own.rd ‹_› | exact Rd.oC ‹_› hB | exact Own.rd (Own.oC ‹_› hB)) (by first | assumption | exact Own.rd ‹_› | exact Rd.oC ‹_› hB | exact Own.rd (Own.oC ‹_› hB)) (by first | assumption | exact Own.rd ‹_› | exact Rd.oC ‹_› hB | exact Own.rd (Own.oC ‹_› hB)))) rfl ?_)))))
 rintro _ w4 ⟨v1, rfl, o1, k4⟩
 have gl_o1 := hB.size
 have sb_b2_o1 := fun x hx => (show x ≠ b2 from by have h1 := (o1.blk x hx).1; have h2 := hb2.lt; omega)
 replace rr := rr.oC k4
 obtain ⟨hB, hb1, hb2, hb3⟩ := kq3 k4 hB hb1 hb2 hb3
 refine ogm rfl rfl (a7 (bH (vs := [_, _]) rfl rfl) rfl (a7 (bH (vs := [_, _]) rfl rfl) rfl (oga rfl rfl (oga rfl rfl (a6 (a5 (a5 (aZ (ogm rfl rfl (ah (ab (vs := [_]) rfl (lv _ _ _ _ rr)) rfl ?_))))))))))
 rintro _ _ ⟨rfl, rfl⟩
 refine a7 (bn rfl rfl) rfl (ogm rfl rfl (aq 22 false rfl (fun c1 hgc1 => a9 [(12, _)] (ad rfl rfl rfl hgc1) ⟨bB rfl, trivial⟩ (fun hw1 => bC rfl) rfl (a9 [(23, _)] (ad rfl rfl rfl hgc1) ⟨ag rfl, trivial⟩ (fun hw2 => bn rfl rfl) rfl (a7 (bP rfl rfl hgc1) rfl (ogm rfl rfl (aq 26 false rfl (fun c2 hgc2 => a9 [(11, _)] (ad rfl rfl rfl hgc2) ⟨bB rfl, trivial⟩ (fun hw3 => bC rfl) rfl (a9 [(3, _)] (ad rfl rfl rfl hgc2) ⟨bB rfl, trivial⟩ (fun hw4 => bC rfl) rfl (dk [(27, _), (28, _)] (ad rfl rfl rfl hgc2) ⟨ag rfl, ag rfl, trivial⟩ (fun hw5 => ab (vs := [_, _]) rfl (dm _ _ (bif pkOk z then pkB z else []) c _ o1.rd (hv.oC hB))) rfl ?_))))))))))
 refine a9 [(29, _)] (ad rfl rfl rfl hgc2) ⟨ag rfl, trivial⟩ (fun hw6 => eu rfl) rfl (a7 (bP rfl rfl hgc2) rfl (a6 (af [(4, _), (8, _), (10, _), (31, _)] ⟨rfl, rfl, rfl, rfl, trivial⟩ (bD rfl (fun hc1 => ?_) (fun hc1 => ?_)))))
 ·
  have hd1 := hc1
  try (simp only [Bool.and_eq_true, Bool.or_eq_true, decide_eq_true_eq, Bool.and_eq_false_iff, Bool.or_eq_false_iff, decide_eq_false_iff_not, Bool.not_eq_true', Bool.not_eq_false', Bool.not_eq_true, Bool.not_eq_false, ne_eq, Decidable.not_not, decide_true, decide_false, Bool.true_and, Bool.false_and, Bool.or_false, Bool.false_or, not_true_eq_false, false_or, or_false, true_and, and_true, not_false_eq_true, reduceCtorEq] at hd1)
  refine a5 (aZ (a7 (au (cs' := [_, _, _, _, _, _, _, _]) fu cg rfl hb3 rfl rfl) rfl (an (bK cg rfl rfl rfl (by simp only [List.forall_mem_cons]; refine ⟨rfl, rfl, rfl, rfl, rfl, rfl, rfl, rfl, fun v hv => by cases hv⟩) hb2 rfl) ?_)))
  rintro _ w5 ⟨hb4, k5, z4⟩
  replace rr := rr.keep k5 (fun x hx hm => (fun x (hx : x ≤ r) => (show x ≠ b2 from by omega)) x hx (List.mem_singleton.1 hm))
  replace hb1 := hb1.keep k5 (nm ne_b1_b2)
  replace hb3 := hb3.keep k5 (nm (Ne.symm ne_b2_b3))
  replace o1 := o1.keep k5 (fun x hx hm => sb_b2_o1 x hx (List.mem_singleton.1 hm))
  replace hB := hB.new k5 (nw ge_b2)
  clear z4
  replace hb4 : Bk w5 b2 _ [.slice none 0 0, .slice none 0 0, .slice none 0 0, .slice none 0 0, .int .i64 0, .slice none 0 0, .slice none 0 0, .slice none 0 0] := hb4
  refine oga rfl rfl (a6 (bJ hfin Try.results81 rfl (ar fu cg hb4 rfl) rfl ?_))
  have hok : (decide (rEnd rest er = 0) && pkOk z && decide (pkB z = c)) = false := by
   clear hfin
   by_cases h1 : rEnd rest er = 0 <;> cases hw : pkOk z <;> by_cases h2 : pkB z = c <;> simp_all
  exact ⟨by rw [hok]; rfl, hB⟩
 ·
  have hd2 := hc1
  try (simp only [Bool.and_eq_true, Bool.or_eq_true, decide_eq_true_eq, Bool.and_eq_false_iff, Bool.or_eq_false_iff, decide_eq_false_iff_not, Bool.not_eq_true', Bool.not_eq_false', Bool.not_eq_true, Bool.not_eq_false, ne_eq, Decidable.not_not, decide_true, decide_false, Bool.true_and, Bool.false_and, Bool.or_false, Bool.false_or, not_true_eq_false, false_or, or_false, true_and, and_true, not_false_eq_true, reduceCtorEq] at hd2)
  refine aj (a5 (aZ (a7 (au (cs' := [_, _, _, _, _, _, _, _]) fu cg rfl hb1 rfl rfl) rfl (an (bK cg rfl rfl rfl (by simp only [List.forall_mem_cons]; refine ⟨(by first | rfl | exact Rd.one (by first | assumption | exact Own.rd ‹_› | exact Rd.oC ‹_› hB | exact Own.rd (Own.oC ‹_› hB))), (by first | rfl | exact Rd.one (by first | assumption | exact Own.rd ‹_› | exact Rd.oC ‹_› hB | exact Own.rd (Own.oC ‹_› hB))), (by first | rfl | exact Rd.one (by first | assumption | exact Own.rd ‹_› | exact Rd.oC ‹_› hB | exact Own.rd (Own.oC ‹_› hB))), (by first | rfl | exact Rd.one (by first | assumption | exact Own.rd ‹_› | exact Rd.oC ‹_› hB | exact Own.rd (Own.oC ‹_› hB))), (by first | rfl | exact Rd.one (by first | assumption | exact Own.rd ‹_› | exact Rd.oC ‹_› hB | exact Own.rd (Own.oC ‹_› hB))), (by first | rfl | exact Rd.one (by first | assumption | exact Own.rd ‹_› | exact Rd.oC ‹_› hB | exact Own.rd (Own.oC ‹_› hB))), (by first | rfl | exact Rd.one (by first | assumption | exact Own.rd ‹_› | exact Rd.oC ‹_› hB | exact Own.rd (Own.oC ‹_› hB))), (by first | rfl | exact Rd.one (by first | assumption | exact Own.rd ‹_› | exact Rd.oC ‹_› hB | exact Own.rd (Own.oC ‹_› hB))), fun v hv => by cases hv⟩) hb2 rfl) ?_))))
  rintro _ w6 ⟨hb5, k6, z5⟩
  replace rr := rr.keep k6 (fun x hx hm => (fun x (hx : x ≤ r) => (show x ≠ b2 from by omega)) x hx (List.mem_singleton.1 hm))
  replace hB := hB.new k6 (nw ge_b2)
  clear z5
  replace hb5 : Bk w6 b2 _ [i, e, s, n, .int .i64 z.leaf.src, h, g, gg] := hb5
  refine oga rfl rfl (a6 (bJ hfin Try.results81 rfl (ar fu cg hb5 rfl) rfl ?_))
  have hok : (decide (rEnd rest er = 0) && pkOk z && decide (pkB z = c)) = true := by
   clear hfin
   by_cases h1 : rEnd rest er = 0 <;> cases hw : pkOk z <;> by_cases h2 : pkB z = c <;> simp_all
  exact ⟨by rw [hok]; rfl, hB⟩
theorem ma (p : Nat) (rest : List UInt8) (e : Int) (w : World) (h : Rdr w p rest e) : Rets Try.prog 37 [.pointer (some ⟨p, 0, none⟩), .int .i64 4] w (fun v w' => v = .int .i64 (rNum 32 rest e 4).1 ∧ Rdr w' p (rNum 32 rest e 4).2.1 (rNum 32 rest e 4).2.2 ∧ Keep [p] w w') := by
  refine (dy p rest e 4 w h (by decide)).mono ?_
  rintro v w' ⟨r, hr, h1, h2, h3⟩
  rw [show bitsOf 4 = 32 from by decide] at hr; subst hr; exact ⟨h1, h2, h3⟩
theorem ml (v : Value) (c : List UInt8) (w : World) (hv : RdB w v c) (hc : c.length ≤ 140737488351232) : Rets Try.prog 38 [v] w (fun r w' => ∃ q0 q1 q2 q3 q4 q5 q6, r = .tuple #[.agg [q0, q1, q2, q3, .int .i64 (gpR c).leaf.src, q4, q5, q6].toArray, .int .i64 (gpE c)] ∧ OwnB w' w.heap.size q0 (gpR c).init ∧ OwnB w' w.heap.size q1 (gpR c).leaf.enc ∧ OwnB w' w.heap.size q2 (gpR c).leaf.sig ∧ OwnB w' w.heap.size q3 (gpR c).leaf.name ∧ OwnB w' w.heap.size q4 (gpR c).leaf.hash ∧ OwnB w' w.heap.size q5 (gpR c).leaf.sg ∧ OwnB w' w.heap.size q6 (gpR c).sg ∧ Keep [] w w') := by
 have hB : Keep [] w w := Keep.refl _ _
 obtain ⟨z1, z2, z3, z4⟩ := gp_len c
 refine ai Try.func38 rfl (by decide) Try.ntmps38 rfl (fun fin _ hfin => a5 (aZ (ah (bG cg) rfl ?_)))
 rintro _ w1 ⟨b1, rfl, eb1, hb1, k1, z1⟩
 have ge_b1 : w.heap.size ≤ b1 := by have := hB.size; omega
 replace hB := hB.trans k1
 clear eb1 z1
 refine oga rfl rfl (a6 (a5 (aZ (ogm rfl rfl ?_))))
 have zb1 := hb1.lt
 have hs8 := hB.size
 refine ah (ab (vs := [_]) rfl (dl _ c _ (hv.oC hB) (by omega))) rfl ?_
 rintro _ w2 ⟨p1, rfl, rr, k2⟩
 obtain ⟨hB, hb1⟩ := bX k2 hB hb1
 have gp1 := rr.1
 replace rr := rr.rdr
 have hp1 : b1 < p1 := by omega
 refine oga rfl rfl (a6 (a5 (aZ (ogm rfl rfl ?_))))
 have lv_km1 := rr.lt
 refine ah (ab (vs := [_, _]) rfl (ma p1 c 0 _ rr)) rfl ?_
 rintro _ w3 ⟨rfl, rr, km1⟩
 have z_km1 := km1.size
 replace hb1 := hb1.keep km1 (fun hm => by have h9 := List.mem_singleton.1 hm; omega)
 replace hB := hB.new km1 (fun x hm => .inl (by have h9 := List.mem_singleton.1 hm; omega))
 have rr : Rdr w3 p1 (gpH c).2.1 (gpH c).2.2 := rr
 refine a6 (a5 (aZ (ogm rfl rfl ?_)))
 have lv_km2 := rr.lt
 have lb_o1 := hb1.lt
 have gw_o1 := hB.size
 refine ah (ab (vs := [_]) rfl (bQ p1 (gpH c).2.1 (gpH c).2.2 _ rr (by omega))) rfl ?_
 rintro v1 w4 ⟨_, rfl, o1, rr, km2⟩
 have gl_o1 := hB.size
 have z_km2 := km2.size
 replace hb1 := hb1.keep km2 (fun hm => by have h9 := List.mem_singleton.1 hm; omega)
 replace hB := hB.new km2 (fun x hm => .inl (by have h9 := List.mem_singleton.1 hm; omega))
 have rr : Rdr w4 p1 (gpI c).2.1 (gpI c).2.2 := rr
 replace o1 : OwnB w4 w3.heap.size v1 (gpI c).1 := o1
 refine ogm rfl rfl ?_
 have lbR := hb1.lt
 have gwR := hB.size
 have lvR := rr.lt
 refine ah (ab (vs := [_]) rfl (fz w _ hB p1 (gpI c).2.1 (gpI c).2.2 (by omega) rr (by omega))) rfl ?_
 rintro _ w5 ⟨e1, s1, n1, h1, g1, rfl, o61, o62, o63, o64, o65, rr, hB2, km3⟩
 replace hB := hB2
 have z_km3 := km3.size
 replace hb1 := hb1.keep km3 (fun hm => by have h9 := List.mem_singleton.1 hm; omega)
 replace o1 := o1.keep km3 (fun x hx hm => by have h9 := List.mem_singleton.1 hm; have h8 := (o1.blk x hx).1; omega)
 have rr : Rdr w5 p1 (gpL c).2.1 (gpL c).2.2 := rr
 show OW _ _ _ _ _ _ ((13, .agg [e1, s1, n1, .int .i64 (gpL c).1.src, h1, g1].toArray) :: _) _
 refine ogm rfl rfl ?_
 have lv_km4 := rr.lt
 have lb_o2 := hb1.lt
 have gw_o2 := hB.size
 refine ah (ab (vs := [_]) rfl (bQ p1 (gpL c).2.1 (gpL c).2.2 _ rr (by omega))) rfl ?_
 rintro v2 w6 ⟨_, rfl, o2, rr, km4⟩
 have gl_o2 := hB.size
 have z_km4 := km4.size
 replace hb1 := hb1.keep km4 (fun hm => by have h9 := List.mem_singleton.1 hm; omega)
 replace o1 := o1.keep km4 (fun x hx hm => by have h9 := List.mem_singleton.1 hm; have h8 := (o1.blk x hx).1; omega)
 replace o61 := o61.keep km4 (fun x hx hm => by have h9 := List.mem_singleton.1 hm; have h8 := (o61.blk x hx).1; omega)
 replace o62 := o62.keep km4 (fun x hx hm => by have h9 := List.mem_singleton.1 hm; have h8 := (o62.blk x hx).1; omega)
 replace o63 := o63.keep km4 (fun x hx hm => by have h9 := List.mem_singleton.1 hm; have h8 := (o63.blk x hx).1; omega)
 replace o64 := o64.keep km4 (fun x hx hm => by have h9 := List.mem_singleton.1 hm; have h8 := (o64.blk x hx).1; omega)
 replace o65 := o65.keep km4 (fun x hx hm => by have h9 := List.mem_singleton.1 hm; have h8 := (o65.blk x hx).1; omega)
 replace hB := hB.new km4 (fun x hm => .inl (by have h9 := List.mem_singleton.1 hm; omega))
 have rr : Rdr w6 p1 (gpG c).2.1 (gpG c).2.2 := rr
 replace o2 : OwnB w6 w5.heap.size v2 (gpG c).1 := o2
 refine a7 (cA (idx := [0, 1, 2]) (xs := [.tmp 11, .tmp 13, .tmp 15]) (vs := [_, _, _]) (css := [[_], [e1, s1, n1, .int .i64 (gpL c).1.src, h1, g1], [_]]) (out := [v1, e1, s1, n1, .int .i64 (gpL c).1.src, h1, g1, v2]) pl32 cg rfl rfl ⟨Rd.cells (Own.rd o1), rfl, Rd.cells (Own.rd o2), trivial⟩ rfl rfl) rfl ?_
 have lr5 := rr.lt
 have lt_o1 := fun x hx => (o1.blk x hx).2
 have lt_o61 := fun x hx => (o61.blk x hx).2
 have lt_o62 := fun x hx => (o62.blk x hx).2
 have lt_o63 := fun x hx => (o63.blk x hx).2
 have lt_o64 := fun x hx => (o64.blk x hx).2
 have lt_o65 := fun x hx => (o65.blk x hx).2
 have lt_o2 := fun x hx => (o2.blk x hx).2
 refine ah (bG cg) rfl ?_
 rintro _ w7 ⟨b2, rfl, eb2, hb2, k3, z2⟩
 have rlt5 : p1 < b2 := by omega
 have ebk := eb2
 have ge_b2 : w.heap.size ≤ b2 := by have := hB.size; omega
 have ne_b1_b2 : b1 ≠ b2 := by have := hb1.lt; omega
 replace hb1 := hb1.oC k3
 replace rr := rr.oC k3
 replace o1 := o1.oC k3
 replace o61 := o61.oC k3
 replace o62 := o62.oC k3
 replace o63 := o63.oC k3
 replace o64 := o64.oC k3
 replace o65 := o65.oC k3
 replace o2 := o2.oC k3
 replace hB := hB.trans k3
 clear eb2 z2
 refine an (bK cg rfl rfl rfl (by simp only [List.forall_mem_cons]; exact ⟨o1.rd.one, o61.rd.one, o62.rd.one, o63.rd.one, rfl, o64.rd.one, o65.rd.one, o2.rd.one, fun v hv => by cases hv⟩) hb2 rfl) ?_
 rintro _ w8 ⟨hb3, k4, z3⟩
 replace hb1 := hb1.keep k4 (nm ne_b1_b2)
 replace rr := rr.keep k4 (fun x hx hm => (fun x (hx : x ≤ p1) => (show x ≠ b2 from by omega)) x hx (List.mem_singleton.1 hm))
 replace o1 := o1.keep k4 (fun x hx hm => (fun x hx => Nat.ne_of_lt (Nat.lt_of_lt_of_le (lt_o1 x hx) (Nat.le_of_eq ebk.symm))) x hx (List.mem_singleton.1 hm))
 replace o61 := o61.keep k4 (fun x hx hm => (fun x hx => Nat.ne_of_lt (Nat.lt_of_lt_of_le (lt_o61 x hx) (Nat.le_of_eq ebk.symm))) x hx (List.mem_singleton.1 hm))
 replace o62 := o62.keep k4 (fun x hx hm => (fun x hx => Nat.ne_of_lt (Nat.lt_of_lt_of_le (lt_o62 x hx) (Nat.le_of_eq ebk.symm))) x hx (List.mem_singleton.1 hm))
 replace o63 := o63.keep k4 (fun x hx hm => (fun x hx => Nat.ne_of_lt (Nat.lt_of_lt_of_le (lt_o63 x hx) (Nat.le_of_eq ebk.symm))) x hx (List.mem_singleton.1 hm))
 replace o64 := o64.keep k4 (fun x hx hm => (fun x hx => Nat.ne_of_lt (Nat.lt_of_lt_of_le (lt_o64 x hx) (Nat.le_of_eq ebk.symm))) x hx (List.mem_singleton.1 hm))
 replace o65 := o65.keep k4 (fun x hx hm => (fun x hx => Nat.ne_of_lt (Nat.lt_of_lt_of_le (lt_o65 x hx) (Nat.le_of_eq ebk.symm))) x hx (List.mem_singleton.1 hm))
 replace o2 := o2.keep k4 (fun x hx hm => (fun x hx => Nat.ne_of_lt (Nat.lt_of_lt_of_le (lt_o2 x hx) (Nat.le_of_eq ebk.symm))) x hx (List.mem_singleton.1 hm))
 replace hB := hB.new k4 (nw ge_b2)
 clear z3
 replace hb3 : Bk w8 b2 _ [v1, e1, s1, n1, .int .i64 (gpL c).1.src, h1, g1, v2] := hb3
 refine a6 (af [(0, _), (2, _), (4, _), (5, _)] ⟨rfl, rfl, rfl, rfl, trivial⟩ (a5 (aZ (a7 (au (cs' := [_, _, _, _, _, _, _, _]) fu cg rfl hb3 rfl rfl) rfl (ogm rfl rfl (ogm rfl rfl (ah (ab (vs := [_, _, _, _]) rfl (mj _ _ _ _ _ _ _ (gpP c) _ o1.rd o61.rd o62.rd o63.rd o64.rd o65.rd o2.rd p1 _ _ rr _ c (hv.oC hB))) rfl ?_)))))))
 rintro _ w9 ⟨rfl, k5⟩
 replace hb1 := hb1.oC k5
 replace o1 := o1.oC k5
 replace o61 := o61.oC k5
 replace o62 := o62.oC k5
 replace o63 := o63.oC k5
 replace o64 := o64.oC k5
 replace o65 := o65.oC k5
 replace o2 := o2.oC k5
 replace hB := hB.trans k5
 generalize hg : (decide (rEnd (gpG c).2.1 (gpG c).2.2 = 0) && pkOk (gpP c) && decide (pkB (gpP c) = c)) = ok
 obtain ⟨q0, q1, q2, q3, q4, q5, q6, hq, u0, u1, u2, u3, u4, u5, u6, o70, o71, o72, o73, o74, o75, o76⟩ : ∃ q0 q1 q2 q3 q4 q5 q6 : Value, (bif ok then Value.agg [v1, e1, s1, n1, .int .i64 (gpP c).leaf.src, h1, g1, v2].toArray else .agg [.slice none 0 0, .slice none 0 0, .slice none 0 0, .slice none 0 0, .int .i64 0, .slice none 0 0, .slice none 0 0, .slice none 0 0].toArray) = .agg [q0, q1, q2, q3, .int .i64 (gpR c).leaf.src, q4, q5, q6].toArray ∧ q0.oneCell' = true ∧ q1.oneCell' = true ∧ q2.oneCell' = true ∧ q3.oneCell' = true ∧ q4.oneCell' = true ∧ q5.oneCell' = true ∧ q6.oneCell' = true ∧ OwnB w9 w3.heap.size q0 (gpR c).init ∧ OwnB w9 w4.heap.size q1 (gpR c).leaf.enc ∧ OwnB w9 w4.heap.size q2 (gpR c).leaf.sig ∧ OwnB w9 w4.heap.size q3 (gpR c).leaf.name ∧ OwnB w9 w4.heap.size q4 (gpR c).leaf.hash ∧ OwnB w9 w4.heap.size q5 (gpR c).leaf.sg ∧ OwnB w9 w5.heap.size q6 (gpR c).sg := by
  have hgl : gpR c = bif ok then gpP c else bg := by unfold gpR gpOk; rw [hg]
  rw [hgl]
  cases ok with
  | true => exact ⟨_, _, _, _, _, _, _, rfl, o1.rd.one, o61.rd.one, o62.rd.one, o63.rd.one, o64.rd.one, o65.rd.one, o2.rd.one, o1, o61, o62, o63, o64, o65, o2⟩
  | false => exact ⟨_, _, _, _, _, _, _, rfl, rfl, rfl, rfl, rfl, rfl, rfl, rfl, a8 _ _ _ _, a8 _ _ _ _, a8 _ _ _ _, a8 _ _ _ _, a8 _ _ _ _, a8 _ _ _ _, a8 _ _ _ _⟩
 rw [hq]
 refine a7 (bH (vs := [_, _]) rfl rfl) rfl (a7 (bH (vs := [_, _]) rfl rfl) rfl (an (bK cg rfl rfl rfl (by simp only [List.forall_mem_cons]; exact ⟨u0, u1, u2, u3, rfl, u4, u5, u6, fun v hv => by cases hv⟩) hb1 rfl) ?_))
 rintro _ w10 ⟨hb4, k6, z4⟩
 replace o70 := o70.keep k6 (fun x hx hm => (fun x hx => (show x ≠ b1 from by have := (o70.blk x hx).1; omega)) x hx (List.mem_singleton.1 hm))
 replace o71 := o71.keep k6 (fun x hx hm => (fun x hx => (show x ≠ b1 from by have := (o71.blk x hx).1; omega)) x hx (List.mem_singleton.1 hm))
 replace o72 := o72.keep k6 (fun x hx hm => (fun x hx => (show x ≠ b1 from by have := (o72.blk x hx).1; omega)) x hx (List.mem_singleton.1 hm))
 replace o73 := o73.keep k6 (fun x hx hm => (fun x hx => (show x ≠ b1 from by have := (o73.blk x hx).1; omega)) x hx (List.mem_singleton.1 hm))
 replace o74 := o74.keep k6 (fun x hx hm => (fun x hx => (show x ≠ b1 from by have := (o74.blk x hx).1; omega)) x hx (List.mem_singleton.1 hm))
 replace o75 := o75.keep k6 (fun x hx hm => (fun x hx => (show x ≠ b1 from by have := (o75.blk x hx).1; omega)) x hx (List.mem_singleton.1 hm))
 replace o76 := o76.keep k6 (fun x hx hm => (fun x hx => (show x ≠ b1 from by have := (o76.blk x hx).1; omega)) x hx (List.mem_singleton.1 hm))
 replace hB := hB.new k6 (nw ge_b1)
 clear z4
 replace hb4 : Bk w10 b1 _ [q0, q1, q2, q3, .int .i64 (gpR c).leaf.src, q4, q5, q6] := hb4
 refine oga rfl rfl (a6 (bJ hfin Try.results38 rfl (ar fu cg hb4 rfl) rfl ?_))
 have hgl : gpE c = bif ok then 0 else 21 := by unfold gpE gpOk; rw [hg]
 rw [← hgl]
 exact ⟨q0, q1, q2, q3, q4, q5, q6, rfl, o70.lo gw_o1, o71.lo gwR, o72.lo gwR, o73.lo gwR, o74.lo gwR, o75.lo gwR, o76.lo gw_o2, hB⟩
theorem kS (v : Value) (c : List UInt8) (w : World) (hv : RdB w v c) (hc : c.length ≤ 140737488351232) : Rets Try.prog 40 [v] w (fun r w' => ∃ e s n h g, r = .tuple #[.agg [e, s, n, .int .i64 (glR c).src, h, g].toArray, .int .i64 (glE c)] ∧ OwnB w' w.heap.size e (glR c).enc ∧ OwnB w' w.heap.size s (glR c).sig ∧ OwnB w' w.heap.size n (glR c).name ∧ OwnB w' w.heap.size h (glR c).hash ∧ OwnB w' w.heap.size g (glR c).sg ∧ Keep [] w w') := by
 have hB : Keep [] w w := Keep.refl _ _
 refine ai Try.func40 rfl (by decide) Try.ntmps40 rfl (fun fin _ hfin => a5 (aZ (ah (bG bk) rfl ?_)))
 rintro _ w1 ⟨b1, rfl, eb1, hb1, k1, z1⟩
 have ge_b1 : w.heap.size ≤ b1 := by have := hB.size; omega
 replace hB := hB.trans k1
 clear eb1 z1
 refine oga rfl rfl (a6 (a5 (aZ (ogm rfl rfl ?_))))
 have zb1 := hb1.lt
 have hs8 := hB.size
 refine ah (ab (vs := [_]) rfl (dl _ c _ (hv.oC hB) (by omega))) rfl ?_
 rintro _ w2 ⟨p1, rfl, rr, k2⟩
 obtain ⟨hB, hb1⟩ := bX k2 hB hb1
 have gp1 := rr.1
 replace rr := rr.rdr
 have hp1 : b1 < p1 := by omega
 refine oga rfl rfl (a6 (a5 (aZ (ogm rfl rfl ?_))))
 have lbR := hb1.lt
 have gwR := hB.size
 refine ah (ab (vs := [_]) rfl (fz w _ hB p1 c 0 (by omega) rr hc)) rfl ?_
 rintro _ w3 ⟨e1, s1, n1, h1, g1, rfl, f1, f2, f3, f4, f5, rr, hB2, km1⟩
 replace hB := hB2
 replace hb1 := hb1.keep km1 (fun hm => by have h9 := List.mem_singleton.1 hm; omega)
 have hK2 := Keep.refl [] w3
 refine ogm rfl rfl (ogm rfl rfl (ah (ab (vs := [_, _, _, _]) rfl (kQ _ _ _ _ _ (rLeaf c 0).1 _ (f1.rd.oC hK2) (f2.rd.oC hK2) (f3.rd.oC hK2) (f4.rd.oC hK2) (f5.rd.oC hK2) p1 _ _ rr _ c (hv.oC hB))) rfl ?_))
 rintro _ w4 ⟨rfl, k3⟩
 obtain ⟨hB, hb1⟩ := bX k3 hB hb1
 replace hK2 := hK2.trans k3
 generalize hg : (decide (rEnd (rLeaf c 0).2.1 (rLeaf c 0).2.2 = 0) && leafOk (rLeaf c 0).1 && decide (leafB (rLeaf c 0).1 = c)) = ok
 obtain ⟨q1, q2, q3, q4, q5, hq, u1, u2, u3, u4, u5, o71, o72, o73, o74, o75⟩ : ∃ q1 q2 q3 q4 q5 : Value, (bif ok then Value.agg [e1, s1, n1, .int .i64 (rLeaf c 0).1.src, h1, g1].toArray else .agg [.slice none 0 0, .slice none 0 0, .slice none 0 0, .int .i64 0, .slice none 0 0, .slice none 0 0].toArray) = .agg [q1, q2, q3, .int .i64 (glR c).src, q4, q5].toArray ∧ q1.oneCell' = true ∧ q2.oneCell' = true ∧ q3.oneCell' = true ∧ q4.oneCell' = true ∧ q5.oneCell' = true ∧ OwnB w4 w2.heap.size q1 (glR c).enc ∧ OwnB w4 w2.heap.size q2 (glR c).sig ∧ OwnB w4 w2.heap.size q3 (glR c).name ∧ OwnB w4 w2.heap.size q4 (glR c).hash ∧ OwnB w4 w2.heap.size q5 (glR c).sg := by
  have hgl : glR c = bif ok then (rLeaf c 0).1 else bf := by unfold glR glOk; rw [hg]
  rw [hgl]
  cases ok with
  | true => exact ⟨_, _, _, _, _, rfl, f1.rd.one, f2.rd.one, f3.rd.one, f4.rd.one, f5.rd.one, f1.oC hK2, f2.oC hK2, f3.oC hK2, f4.oC hK2, f5.oC hK2⟩
  | false => exact ⟨_, _, _, _, _, rfl, rfl, rfl, rfl, rfl, rfl, a8 _ _ _ _, a8 _ _ _ _, a8 _ _ _ _, a8 _ _ _ _, a8 _ _ _ _⟩
 rw [hq]
 refine a7 (bH (vs := [_, _]) rfl rfl) rfl (a7 (bH (vs := [_, _]) rfl rfl) rfl (an (bK bk rfl rfl rfl (by simp only [List.forall_mem_cons]; exact ⟨u1, u2, u3, rfl, u4, u5, fun v hv => by cases hv⟩) hb1 rfl) ?_))
 rintro _ w5 ⟨hb2, k4, z2⟩
 replace o71 := o71.keep k4 (fun x hx hm => (fun x hx => (show x ≠ b1 from by have := (o71.blk x hx).1; omega)) x hx (List.mem_singleton.1 hm))
 replace o72 := o72.keep k4 (fun x hx hm => (fun x hx => (show x ≠ b1 from by have := (o72.blk x hx).1; omega)) x hx (List.mem_singleton.1 hm))
 replace o73 := o73.keep k4 (fun x hx hm => (fun x hx => (show x ≠ b1 from by have := (o73.blk x hx).1; omega)) x hx (List.mem_singleton.1 hm))
 replace o74 := o74.keep k4 (fun x hx hm => (fun x hx => (show x ≠ b1 from by have := (o74.blk x hx).1; omega)) x hx (List.mem_singleton.1 hm))
 replace o75 := o75.keep k4 (fun x hx hm => (fun x hx => (show x ≠ b1 from by have := (o75.blk x hx).1; omega)) x hx (List.mem_singleton.1 hm))
 replace hB := hB.new k4 (nw ge_b1)
 clear z2
 replace hb2 : Bk w5 b1 _ [q1, q2, q3, .int .i64 (glR c).src, q4, q5] := hb2
 refine oga rfl rfl (a6 (af [(2, _), (3, _)] ⟨rfl, rfl, trivial⟩ (bJ hfin Try.results40 rfl (ar dt bk hb2 rfl) rfl ?_)))
 have hgl : glE c = bif ok then 0 else 21 := by unfold glE glOk; rw [hg]
 rw [← hgl]
 exact ⟨q1, q2, q3, q4, q5, rfl, o71.lo gwR, o72.lo gwR, o73.lo gwR, o74.lo gwR, o75.lo gwR, hB⟩
theorem gt {a : List UInt8} (h : a.length ≤ 64) : joinB [a] = vec a ∧ (joinB [a]).length ≤ 68 := by
 have e : joinB [a] = vec a := by
   unfold joinB dv
   simp only [List.flatMap_cons, List.flatMap_nil, List.append_nil]; rw [if_pos (by omega)]
 refine ⟨e, ?_⟩
 have := av a.length
 rw [e]; unfold vec; rw [List.length_append]; omega
theorem joinB_3 {a b c : List UInt8} (h1 : a.length ≤ 64) (h2 : b.length ≤ 64) (h3 : c.length ≤ 64) : joinB [a, b, c] = vec a ++ vec b ++ vec c ∧ (joinB [a, b, c]).length ≤ 204 := by
 have e : joinB [a, b, c] = vec a ++ vec b ++ vec c := by
   unfold joinB dv
   simp only [List.flatMap_cons, List.flatMap_nil, List.append_nil]; rw [if_pos (by omega), if_pos (by omega), if_pos (by omega), List.append_assoc]
 refine ⟨e, ?_⟩
 have e1 := av a.length; have e2 := av b.length; have e3 := av c.length
 rw [e]; unfold vec; simp only [List.length_append]; omega
theorem jU (e s n h g : Value) (l : Lf) (w : World) (he : RdB w e l.enc) (hs : RdB w s l.sig) (hn : RdB w n l.name) (hh : RdB w h l.hash) (hg : RdB w g l.sg) : Rets Try.prog 74 [.agg [e, s, n, .int .i64 l.src, h, g].toArray] w (fun r w' => r = .bool (leafOk l) ∧ Keep [] w w') := by
 have hB : Keep [] w w := Keep.refl _ _
 refine ai Try.func74 rfl (by decide) Try.ntmps74 rfl (fun fin _ hfin => a5 (aZ (ah (bc (cs := [e, s, n, .int .i64 l.src, h, g]) rfl rfl) rfl ?_)))
 rintro _ w1 ⟨b1, rfl, eb1, hb1, k1, z1⟩
 have ge_b1 : w.heap.size ≤ b1 := by have := hB.size; omega
 replace hB := hB.trans k1
 clear eb1 z1
 refine oga rfl rfl (a6 (a5 (a5 (aZ (a7 (ak aC rfl am (by decide) rfl) rfl (a7 (ae aw rfl hb1 rfl) rfl (a7 (ay aA rfl (by first | assumption | exact Own.rd ‹_› | exact Rd.oC ‹_› hB | exact Own.rd (Own.oC ‹_› hB))) rfl (a7 (bn rfl rfl) rfl (ogm rfl rfl (aq 7 false rfl (fun c1 hgc1 => a9 [(1, _)] (ad rfl rfl rfl hgc1) ⟨bB rfl, trivial⟩ (fun hw1 => ak aC rfl am (by decide) rfl) rfl (a9 [(8, _)] (ad rfl rfl rfl hgc1) ⟨ag rfl, trivial⟩ (fun hw2 => ae aw rfl hb1 rfl) rfl (a9 [(9, _)] (ad rfl rfl rfl hgc1) ⟨ag rfl, trivial⟩ (fun hw3 => ay aA rfl (by first | assumption | exact Own.rd ‹_› | exact Rd.oC ‹_› hB | exact Own.rd (Own.oC ‹_› hB))) rfl (a9 [(10, _)] (ad rfl rfl rfl hgc1) ⟨ag rfl, trivial⟩ (fun hw4 => bn rfl rfl) rfl ?_))))))))))))))
 refine a7 (bP rfl rfl hgc1) rfl (ogm rfl rfl (aq 13 false rfl (fun c2 hgc2 => a9 [(1, _)] (ad rfl rfl rfl hgc2) ⟨bB rfl, trivial⟩ (fun hw5 => ak aC rfl am (by decide) rfl) rfl (a9 [(14, _)] (ad rfl rfl rfl hgc2) ⟨ag rfl, trivial⟩ (fun hw6 => ae aw rfl hb1 rfl) rfl (a9 [(15, _)] (ad rfl rfl rfl hgc2) ⟨ag rfl, trivial⟩ (fun hw7 => ay aA rfl (by first | assumption | exact Own.rd ‹_› | exact Rd.oC ‹_› hB | exact Own.rd (Own.oC ‹_› hB))) rfl (a9 [(16, _)] (ad rfl rfl rfl hgc2) ⟨ag rfl, trivial⟩ (fun hw8 => cN rfl rfl) rfl (a7 (bP rfl rfl hgc2) rfl (ogm rfl rfl (aq 19 false rfl (fun c3 hgc3 => a9 [(1, _)] (ad rfl rfl rfl hgc3) ⟨bB rfl, trivial⟩ (fun hw9 => ak aC rfl am (by decide) rfl) rfl ?_))))))))))
 refine a9 [(20, _)] (ad rfl rfl rfl hgc3) ⟨ag rfl, trivial⟩ (fun hw10 => ae aw rfl hb1 rfl) rfl (a9 [(21, _)] (ad rfl rfl rfl hgc3) ⟨ag rfl, trivial⟩ (fun hw11 => ay aA rfl (by first | assumption | exact Own.rd ‹_› | exact Rd.oC ‹_› hB | exact Own.rd (Own.oC ‹_› hB))) rfl (a9 [(22, _)] (ad rfl rfl rfl hgc3) ⟨ag rfl, trivial⟩ (fun hw12 => dK rfl rfl) rfl (a7 (bP rfl rfl hgc3) rfl (ogm rfl rfl (aq 25 false rfl (fun c4 hgc4 => a9 [(1, _)] (ad rfl rfl rfl hgc4) ⟨bB rfl, trivial⟩ (fun hw13 => ak aC rfl bh (by decide) rfl) rfl (a9 [(26, _)] (ad rfl rfl rfl hgc4) ⟨ag rfl, trivial⟩ (fun hw14 => ae cY rfl hb1 rfl) rfl (a9 [(27, _)] (ad rfl rfl rfl hgc4) ⟨ag rfl, trivial⟩ (fun hw15 => cN rfl rfl) rfl (a7 (bP rfl rfl hgc4) rfl ?_)))))))))
 refine ogm rfl rfl (aq 30 false rfl (fun c5 hgc5 => a9 [(1, _)] (ad rfl rfl rfl hgc5) ⟨bB rfl, trivial⟩ (fun hw16 => ak aC rfl bh (by decide) rfl) rfl (a9 [(31, _)] (ad rfl rfl rfl hgc5) ⟨ag rfl, trivial⟩ (fun hw17 => ae cY rfl hb1 rfl) rfl (a9 [(32, _)] (ad rfl rfl rfl hgc5) ⟨ag rfl, trivial⟩ (fun hw18 => dK rfl rfl) rfl (a7 (bP rfl rfl hgc5) rfl (ogm rfl rfl (aq 35 false rfl (fun c6 hgc6 => a9 [(1, _)] (ad rfl rfl rfl hgc6) ⟨bB rfl, trivial⟩ (fun hw19 => ak aC rfl am (by decide) rfl) rfl (a9 [(36, _)] (ad rfl rfl rfl hgc6) ⟨ag rfl, trivial⟩ (fun hw20 => ae aw rfl hb1 rfl) rfl (a9 [(37, _)] (ad rfl rfl rfl hgc6) ⟨ag rfl, trivial⟩ (fun hw21 => ay aA rfl (by first | assumption | exact Own.rd ‹_› | exact Rd.oC ‹_› hB | exact Own.rd (Own.oC ‹_› hB))) rfl ?_))))))))))
 refine a9 [(38, _)] (ad rfl rfl rfl hgc6) ⟨ag rfl, trivial⟩ (fun hw22 => bn rfl rfl) rfl (a7 (bP rfl rfl hgc6) rfl (a6 (af [(1, _), (40, _)] ⟨rfl, rfl, trivial⟩ (bD rfl (fun hc1 => ?_) (fun hc1 => ?_)))))
 ·
  have hd1 := hc1
  try (simp only [Bool.and_eq_true, Bool.or_eq_true, decide_eq_true_eq, Bool.and_eq_false_iff, Bool.or_eq_false_iff, decide_eq_false_iff_not, Bool.not_eq_true', Bool.not_eq_false', Bool.not_eq_true, Bool.not_eq_false, ne_eq, Decidable.not_not, decide_true, decide_false, Bool.true_and, Bool.false_and, Bool.or_false, Bool.false_or, not_true_eq_false, false_or, or_false, true_and, and_true, not_false_eq_true, reduceCtorEq] at hd1)
  refine a5 (aZ (oga rfl rfl (a6 (al hfin Try.results74 rfl ?_))))
  exact ⟨by rw [show leafOk l = false from by cases hE : leafOk l with | false => rfl | true => (rw [cF] at hE; exfalso; omega)], hB⟩
 ·
  have hd2 := hc1
  try (simp only [Bool.and_eq_true, Bool.or_eq_true, decide_eq_true_eq, Bool.and_eq_false_iff, Bool.or_eq_false_iff, decide_eq_false_iff_not, Bool.not_eq_true', Bool.not_eq_false', Bool.not_eq_true, Bool.not_eq_false, ne_eq, Decidable.not_not, decide_true, decide_false, Bool.true_and, Bool.false_and, Bool.or_false, Bool.false_or, not_true_eq_false, false_or, or_false, true_and, and_true, not_false_eq_true, reduceCtorEq] at hd2)
  refine aj (a5 (aZ (a7 (ak aC rfl am (by decide) rfl) rfl (a7 (ae aw rfl hb1 rfl) rfl (a7 (ay aA rfl (by first | assumption | exact Own.rd ‹_› | exact Rd.oC ‹_› hB | exact Own.rd (Own.oC ‹_› hB))) rfl (a7 (bE rfl rfl) rfl (ogm rfl rfl (aq 45 false rfl (fun c7 hgc7 => a9 [(1, _)] (ad rfl rfl rfl hgc7) ⟨bB rfl, trivial⟩ (fun hw23 => ak aC rfl am (by decide) rfl) rfl (a9 [(46, _)] (ad rfl rfl rfl hgc7) ⟨ag rfl, trivial⟩ (fun hw24 => ae aw rfl hb1 rfl) rfl (a9 [(47, _)] (ad rfl rfl rfl hgc7) ⟨ag rfl, trivial⟩ (fun hw25 => ay aA rfl (by first | assumption | exact Own.rd ‹_› | exact Rd.oC ‹_› hB | exact Own.rd (Own.oC ‹_› hB))) rfl (a9 [(48, _)] (ad rfl rfl rfl hgc7) ⟨ag rfl, trivial⟩ (fun hw26 => bE rfl rfl) rfl ?_))))))))))))
  refine a9 [(49, _)] (ad rfl rfl rfl hgc7) ⟨ag rfl, trivial⟩ (fun hw27 => bC rfl) rfl (ci 50 true rfl (fun c8 hgc8 => a9 [(1, _)] (cE rfl rfl rfl hgc8) ⟨bB rfl, trivial⟩ (fun hw28 => ak aC rfl bh (by decide) rfl) rfl (a9 [(51, _)] (cE rfl rfl rfl hgc8) ⟨ag rfl, trivial⟩ (fun hw29 => ae cY rfl hb1 rfl) rfl (a9 [(52, _)] (cE rfl rfl rfl hgc8) ⟨ag rfl, trivial⟩ (fun hw30 => bE rfl rfl) rfl (cu (ad rfl rfl rfl hgc7) (ag rfl) rfl hgc8 rfl (a7 (bP rfl rfl hgc7) rfl (oga rfl rfl (a6 (af [(2, _)] ⟨rfl, trivial⟩ (al hfin Try.results74 rfl ?_))))))))))
  have hc2 : ¬ (l.enc.length ≠ 32 ∨ l.sig.length ≠ 32 ∨ l.name.length < 1 ∨ l.name.length > 64 ∨ l.src < 1 ∨ l.src > 3 ∨ l.sg.length ≠ 64) := by omega
  refine ⟨congrArg Value.bool (by rw [Bool.eq_iff_iff, cF]; simp only [Bool.or_eq_true, Bool.and_eq_true, decide_eq_true_eq]; omega), hB⟩
theorem la (i e s n h g gg : Value) (z : Pk) (w : World) (hi : RdB w i z.init) (he : RdB w e z.leaf.enc) (hs : RdB w s z.leaf.sig) (hn : RdB w n z.leaf.name) (hh : RdB w h z.leaf.hash) (hg : RdB w g z.leaf.sg) (hgg : RdB w gg z.sg) : Rets Try.prog 73 [.agg [i, e, s, n, .int .i64 z.leaf.src, h, g, gg].toArray] w (fun r w' => r = .bool (pkOk z) ∧ Keep [] w w') := by
 have hB : Keep [] w w := Keep.refl _ _
 refine ai Try.func73 rfl (by decide) Try.ntmps73 rfl (fun fin _ hfin => a5 (aZ (ah (bc (cs := [i, e, s, n, .int .i64 z.leaf.src, h, g, gg]) rfl rfl) rfl ?_)))
 rintro _ w1 ⟨b1, rfl, eb1, hb1, k1, z1⟩
 have ge_b1 : w.heap.size ≤ b1 := by have := hB.size; omega
 replace hB := hB.trans k1
 clear eb1 z1
 refine oga rfl rfl (a6 (a5 (aZ (a7 (ak aK rfl am (by decide) rfl) rfl (a7 (ae aw rfl hb1 rfl) rfl (a7 (ay aA rfl (by first | assumption | exact Own.rd ‹_› | exact Rd.oC ‹_› hB | exact Own.rd (Own.oC ‹_› hB))) rfl (a7 (bE rfl rfl) rfl (ogm rfl rfl (aq 7 true rfl (fun c1 hgc1 => a9 [(1, _)] (ad rfl rfl rfl hgc1) ⟨bB rfl, trivial⟩ (fun hw1 => ak aK rfl bm (by decide) rfl) rfl (a9 [(8, _)] (ad rfl rfl rfl hgc1) ⟨ag rfl, trivial⟩ (fun hw2 => au (cs' := [_, _, _, _, _, _]) fB bm rfl hb1 rfl rfl) rfl (cC [(9, _)] (ad rfl rfl rfl hgc1) ⟨ag rfl, trivial⟩ (fun hw3 => ab (vs := [_]) rfl (jU _ _ _ _ _ z.leaf _ (by first | assumption | exact Own.rd ‹_› | exact Rd.oC ‹_› hB | exact Own.rd (Own.oC ‹_› hB)) (by first | assumption | exact Own.rd ‹_› | exact Rd.oC ‹_› hB | exact Own.rd (Own.oC ‹_› hB)) (by first | assumption | exact Own.rd ‹_› | exact Rd.oC ‹_› hB | exact Own.rd (Own.oC ‹_› hB)) (by first | assumption | exact Own.rd ‹_› | exact Rd.oC ‹_› hB | exact Own.rd (Own.oC ‹_› hB)) (by first | assumption | exact Own.rd ‹_› | exact Rd.oC ‹_› hB | exact Own.rd (Own.oC ‹_› hB)))) rfl ?_))))))))))))
 rintro w3 k3
 obtain ⟨hB, hb1⟩ := bX k3 hB hb1
 refine a7 (bM rfl rfl hgc1) rfl (ogm rfl rfl (aq 12 true rfl (fun c2 hgc2 => a9 [(1, _)] (ad rfl rfl rfl hgc2) ⟨bB rfl, trivial⟩ (fun hw4 => ak aK rfl bm (by decide) rfl) rfl (a9 [(13, _)] (ad rfl rfl rfl hgc2) ⟨ag rfl, trivial⟩ (fun hw5 => ak aC rfl bh (by decide) rfl) rfl (a9 [(14, _)] (ad rfl rfl rfl hgc2) ⟨ag rfl, trivial⟩ (fun hw6 => ae cY rfl hb1 rfl) rfl (a9 [(15, _)] (ad rfl rfl rfl hgc2) ⟨ag rfl, trivial⟩ (fun hw7 => bE rfl rfl) rfl (a7 (bM rfl rfl hgc2) rfl (ogm rfl rfl (aq 18 true rfl (fun c3 hgc3 => a9 [(1, _)] (ad rfl rfl rfl hgc3) ⟨bB rfl, trivial⟩ (fun hw8 => ak aK rfl am (by decide) rfl) rfl ?_))))))))))
 refine a9 [(19, _)] (ad rfl rfl rfl hgc3) ⟨ag rfl, trivial⟩ (fun hw9 => ae aw rfl hb1 rfl) rfl (a9 [(20, _)] (ad rfl rfl rfl hgc3) ⟨ag rfl, trivial⟩ (fun hw10 => ay aA rfl (by first | assumption | exact Own.rd ‹_› | exact Rd.oC ‹_› hB | exact Own.rd (Own.oC ‹_› hB))) rfl (a9 [(21, _)] (ad rfl rfl rfl hgc3) ⟨ag rfl, trivial⟩ (fun hw11 => bE rfl rfl) rfl (a7 (bM rfl rfl hgc3) rfl (oga rfl rfl (a6 (af [(2, _)] ⟨rfl, trivial⟩ (al hfin Try.results73 rfl ?_)))))))
 refine ⟨congrArg Value.bool (by rw [Bool.eq_iff_iff, dI]; simp only [Bool.or_eq_true, Bool.and_eq_true, decide_eq_true_eq, and_assoc]; constructor <;> (rintro ⟨a1, a2, a3, a4⟩; exact ⟨by omega, a2, by omega, by omega⟩)), hB⟩
end Go.Proofs.Ytonchmcppekldaa.W
