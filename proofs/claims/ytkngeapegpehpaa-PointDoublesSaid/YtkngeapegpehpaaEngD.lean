/- The walking engine, part 4: append, copy, calls, values by value. Nothing here names a program. -/
import Derived.Test.YtkngeapegpehpaaEngC
namespace Go.Eng
open Go Go.IntWalk

section
variable {P : Program} {n : Nat} {f : Fr} {w : World} {ty : TypeId}

theorem bk_alloc' (w : World) (T : TypeId) (cs : Array Value) : (w.alloc (.cells cs T)).heap[w.heap.size]? = some (.cells cs T (0, 0)) := by
  show (w.heap.push _)[w.heap.size]? = _
  simp
theorem nsc_fits {need old by_ : Nat} (h : old < need) (hb : need * by_ ≤ 140737488355328) : Builtin.nextslicecap need old * by_ ≤ 281474976710656 := growslice_fits h hb
theorem run_append_same (t ty e : TypeId) (i : TypeInfo) (ht : P.underlying t = some (.slice e)) (hi : P.info? e = some i) (base : Option Addr) (l c : Nat) (hlc : l ≤ c) (u : Option Addr) (c' : Nat) :
    (Builtin.append_ #[t, t] ty #[.slice base l c, .slice u 0 c']).run P w = .ok (.slice base l c) w := by
  cases u <;> cases base <;> simp [Builtin.append_, run_underlying ht, sizeOf, typeInfo, hi, Builtin.lenOf, Builtin.firstCells, hlc, loadCells, loadCellsFrom, storeCells]

/-- append(s, x...), s the call's own (or nil). -/
theorem run_app {t ty e : TypeId} {lo s m m' by_ : Nat} {v u : Value} {cs ys zs : List Value} (ht : P.underlying t = some (.slice e)) (he : Ty P e zs s by_) (hs0 : 0 < s) (hzs : zs.length = s)
    (ho : Own w lo e s v m cs) (hr : Rd w s u m' ys) (h1 : ∀ c ∈ ys, c.oneCell' = true) (hb : (m + m') * by_ ≤ 140737488355328 ∧ m + m' ≤ 9223372036854775807) (hl : lo ≤ w.heap.size) :
    ∃ v' w', (Builtin.append_ #[t, t] ty #[v, u]).run P w = .ok v' w' ∧ Own w' lo e s v' (m + m') (cs ++ ys) ∧ Keep (vblk v) w w' ∧ (∀ x, x ∈ vblk v' → x ∈ vblk v ∨ w.heap.size ≤ x) ∧ (∃ A c, v' = .slice A (m + m') c) ∧ isNil v' = (isNil v && decide (m' = 0)) := by
  obtain ⟨ti, z, hi, hz, hzc, hsz, hby⟩ := he.parts
  subst hsz hby
  have h63 : (((m + m' : Nat)) : Int) ≤ 9223372036854775807 := by have := hb.2; omega
  have hml : m + m' ≤ maxLen := le_maxLen h63
  have hcs : (cs ++ ys).length = (m + m') * ti.size := by rw [List.length_append, ho.1, hr.len, Nat.add_mul]
  have hzl : z.cells.size = ti.size := by rw [← Array.length_toList, hzc, hzs]
  obtain ⟨A', c', rfl, h2, h3, h4, h5, h6⟩ := hr
  by_cases hm0 : m' = 0
  · subst hm0
    have hys : ys = [] := List.eq_nil_of_length_eq_zero (by rw [h4, Nat.zero_mul])
    subst hys
    have ho' := ho
    obtain ⟨hl1, ⟨rfl, rfl⟩ | ⟨g, cap, cur, rfl, q1, q2, q3, q4, q5, q6⟩⟩ := ho
    · exact ⟨_, w, run_append_same t ty e ti ht hi none 0 0 (Nat.le_refl _) A' c', by simpa using ho', Keep.refl _ _, (fun x hx => by cases hx), ⟨none, 0, rfl⟩, rfl⟩
    · exact ⟨_, w, run_append_same t ty e ti ht hi _ m cap q3 A' c', by simpa using ho', Keep.refl _ _, fun x hx => .inl hx, ⟨_, cap, rfl⟩, rfl⟩
  · cases A' with
    | none => have := h5 rfl; omega
    | some a' =>
      have hrow := h6 a' rfl
      have hdec : decide (m' = 0) = false := by simp [hm0]
      obtain ⟨hl1, ⟨rfl, rfl⟩ | ⟨g, cap, cur, rfl, q1, q2, q3, q4, q5, q6⟩⟩ := ho
      · have hcs0 : cs = [] := List.eq_nil_of_length_eq_zero (by rw [hl1, Nat.zero_mul])
        subst hcs0
        have hfit := nsc_fits (old := 0) (need := m') (by_ := ti.bytes) (by omega) (by have := hb.1; rwa [Nat.zero_add] at this)
        rw [nextslicecap_zero (by omega)] at hfit
        have hrun := run_append_nil (P := P) w t ty e ti z ht hi hz a' m' c' ys h4 hrow (by omega) (by simpa using h63) hfit
        refine ⟨_, _, hrun, ⟨hcs, .inr ⟨w.heap.size, grownCap w m' 0 e, _, by simp, hl, bk_alloc' w.drew e _, ?_, ?_, ?_, ?_⟩⟩, (keep_drew w).weak.trans (keep_alloc _ _).weak, ?_, ⟨_, _, by rw [Nat.zero_add]⟩, ?_⟩
        · rw [Nat.zero_add]; exact grownCap_ge w m' 0 e
        · exact grownCap_le_maxLen w m' 0 e (by omega)
        · have := grownCap_ge w m' 0 e
          rw [Array.size_append, List.size_toArray, h4, size_zeroCells, hzl, ← Nat.add_mul]; congr 1; omega
        · simp only [Nat.zero_add, ← h4, List.nil_append]; simp
        · intro x hx; simp only [vblk, List.mem_singleton] at hx; subst hx; exact .inr (Nat.le_refl _)
        · simp [isNil, hm0]
      · have holds : ∀ j u, cs[j]? = some u → w.cell? ((⟨g, 0, none⟩ : Addr).add j) = some u := by
          have ho' : w.ownsRow lo e ti.size (.slice (some ⟨g, 0, none⟩) m cap) m cs := ⟨hl1, .inr ⟨g, cap, cur, rfl, q1, q2, q3, q4, q5, q6⟩⟩
          exact ho'.cells rfl
        by_cases hroom : m + m' ≤ cap
        · have hrun := run_append_room (P := P) w t ty e ti ht hi g m cap cur q2 a' m' c' ys h4 hrow h1 hroom (by rw [h4, q5, ← Nat.add_mul]; exact Nat.mul_le_mul_right _ hroom)
          have hlen : (cur.toList.take (m * ti.size)).length = m * ti.size := by rw [q6]; exact hl1
          refine ⟨_, _, hrun, ⟨hcs, .inr ⟨g, cap, _, rfl, q1, setRow_heap w g cur _ e _ q2, hroom, q4, ?_, ?_⟩⟩, setRow_keep _ _ _, fun x hx => .inl hx, ⟨_, _, rfl⟩, ?_⟩
          · have h7 : (m + m') * ti.size ≤ cap * ti.size := Nat.mul_le_mul_right _ hroom
            rw [Nat.add_mul] at h7
            simp only [List.size_toArray, List.length_append, hlen, h4, List.length_drop, Array.length_toList, q5]; omega
          · rw [q6, ← hcs, List.toList_toArray, List.take_left']; rfl
          · simp [isNil]
        · have hrun := run_append_grow (P := P) w t ty e ti z ht hi hz ⟨g, 0, none⟩ m cap cs hl1 holds a' m' c' ys h4 hrow (by omega) h63 (nsc_fits (by omega) hb.1)
          refine ⟨_, _, hrun, ⟨hcs, .inr ⟨w.heap.size, grownCap w (m + m') cap e, _, rfl, hl, bk_alloc' w.drew e _, ?_, ?_, ?_, ?_⟩⟩, (keep_drew w).weak.trans (keep_alloc _ _).weak, ?_, ⟨_, _, rfl⟩, ?_⟩
          · exact grownCap_ge w (m + m') cap e
          · exact grownCap_le_maxLen w (m + m') cap e hml
          · have := grownCap_ge w (m + m') cap e
            have e1 : grownCap w (m + m') cap e = (m + m') + (grownCap w (m + m') cap e - (m + m')) := by omega
            rw [Array.size_append, Array.size_append, List.size_toArray, List.size_toArray, h4, hl1, size_zeroCells, hzl, ← Nat.add_mul, ← Nat.add_mul]; congr 1; omega
          · rw [← hcs, Array.toList_append, List.take_append_of_le_length (by simp)]; simp only [Array.toList_append]; exact List.take_length
          · intro x hx; simp only [vblk, List.mem_singleton] at hx; subst hx; exact .inr (Nat.le_refl _)
          · simp [isNil]

theorem d_app {t e : TypeId} {x y : Operand} {lo s m m' by_ : Nat} {v u : Value} {cs ys zs : List Value} (ht : P.underlying t = some (.slice e)) (he : Ty P e zs s by_) (hs0 : 0 < s) (hzs : zs.length = s)
    (hx : f.ev x = some v) (ho : Own w lo e s v m cs) (hy : f.ev y = some u) (hr : Rd w s u m' ys) (h1 : ∀ c ∈ ys, c.oneCell' = true) (hb : (m + m') * by_ ≤ 140737488355328 ∧ m + m' ≤ 9223372036854775807) (hl : lo ≤ w.heap.size) :
    Does P n f w (.call { callee := .builtin .append, args := #[x, y], argTypes := #[t, t] }) ty
      (fun v' w' => Own w' lo e s v' (m + m') (cs ++ ys) ∧ Keep (vblk v) w w' ∧ (∀ x, x ∈ vblk v' → x ∈ vblk v ∨ w.heap.size ≤ x) ∧ isNil v' = (isNil v && decide (m' = 0))) := by
  intro a ha dst pos aft g K Q hK
  obtain ⟨v', w', hrun, h2, h3, h4, _, h5⟩ := run_app (ty := ty) ht he hs0 hzs ho hr h1 hb hl
  have hr : (execOp a.eval ⟨dst, .call { callee := .builtin .append, args := #[x, y], argTypes := #[t, t] }, ty, pos, aft, g⟩).run P w = .ok (.value v') w' := by
    simp [execOp, resolve, invoke, builtin, ha.ev hx, ha.ev hy, hrun]
  unfold Oper.wp
  rw [hr]
  exact hK _ _ ⟨h2, h3, h4, h5⟩
/-- The same of bytes. -/
theorem d_appB {t e : TypeId} {x y : Operand} {lo : Nat} {v u : Value} {xs ys : List UInt8} {m : Nat} (ht : P.underlying t = some (.slice e)) (he : Ty P e [.int .u8 0] 1 1)
    (hx : f.ev x = some v) (ho : Own w lo e 1 v m (bv xs)) (hy : f.ev y = some u) (hr : RdB w u ys) (hb : m + ys.length ≤ 140737488355328) (hl : lo ≤ w.heap.size) :
    Does P n f w (.call { callee := .builtin .append, args := #[x, y], argTypes := #[t, t] }) ty
      (fun v' w' => Own w' lo e 1 v' (m + ys.length) (bv (xs ++ ys)) ∧ Keep (vblk v) w w' ∧ (∀ x, x ∈ vblk v' → x ∈ vblk v ∨ w.heap.size ≤ x) ∧ isNil v' = (isNil v && decide (ys.length = 0))) :=
  (d_app ht he (by decide) rfl hx ho hy hr (bv_one ys) ⟨by omega, by omega⟩ hl).mono fun v' w' ⟨h1, h2, h3, h4⟩ => ⟨by rw [bv_append]; exact h1, h2, h3, h4⟩
/-- append(nil, make([]T, k)...) -/
theorem d_appZ {t tn e : TypeId} {x y : Operand} {k kn : IntKind} {z : Value} {by_ : Nat} {i : Int} (ht : P.underlying t = some (.slice e)) (htn : P.underlying tn = some (.int kn)) (he : Ty P e [z] 1 by_)
    (hx : f.ev x = some (.slice none 0 0)) (hy : f.ev y = some (.int k i)) (h0 : 0 < i) (hb : i * by_ ≤ 281474976710656 ∧ i ≤ 9223372036854775807) :
    Does P n f w (.call { callee := .builtin .append, args := #[x, y], argTypes := #[t, tn] }) ty
      (fun v' w' => Own w' w.heap.size e 1 v' i.toNat (List.replicate i.toNat z) ∧ isNil v' = false ∧ vblk v' = [w.heap.size] ∧ Keep [] w w') := by
  intro a ha dst pos aft g K Q hK
  obtain ⟨m, rfl⟩ := Int.eq_ofNat_of_zero_le (Int.le_of_lt h0)
  obtain ⟨ti, z', hi, hz, hzc, hs, hby⟩ := he.parts
  have hb1 := hb.1
  rw [← Int.natCast_mul] at hb1
  have hz2 : z'.cells = #[z] := by rw [← Array.toList_inj]; simpa using hzc
  have hrun := Lib.run_append_nil_zeros (P := P) w t tn ty e ti z' k kn ht htn hi hz m (by omega) (by omega) hb.2 (by rw [hby]; omega)
  have hr : (execOp a.eval ⟨dst, .call { callee := .builtin .append, args := #[x, y], argTypes := #[t, tn] }, ty, pos, aft, g⟩).run P w = .ok (.value (.slice (some ⟨w.heap.size, 0, none⟩) m (grownCap w m 0 e))) (w.drew.alloc (.cells (Builtin.zeroCells z'.cells m ++ Builtin.zeroCells z'.cells (grownCap w m 0 e - m)) e)) := by
    simp [execOp, resolve, invoke, builtin, ha.ev hx, ha.ev hy, hrun]
  unfold Oper.wp
  rw [hr]
  have hge := grownCap_ge w m 0 e
  have hzl : ∀ k, (Builtin.zeroCells z'.cells k).toList = List.replicate k z := by
    intro k
    have : Builtin.zeroCells z'.cells k = madeCells #[z] k := by rw [hz2]; simp [Builtin.zeroCells, madeCells]
    rw [this, toList_madeCells_one]
  refine hK _ _ ⟨⟨by simp, .inr ⟨w.heap.size, grownCap w m 0 e, _, rfl, Nat.le_refl _, bk_alloc' w.drew e _, hge, grownCap_le_maxLen w m 0 e (le_maxLen hb.2), ?_, ?_⟩⟩, rfl, rfl, (keep_drew w).trans (keep_alloc _ _)⟩
  · rw [← Array.length_toList, Array.toList_append, hzl, hzl]; simp; omega
  · rw [Array.toList_append, hzl, hzl]; simp
theorem Own.cut0 {lo : Nat} {e : TypeId} {s m h : Nat} {v : Value} {cs : List Value} (ho : Own w lo e s v m cs) (hh : h ≤ m) : Own w lo e s (cut v 0 h s) h (cs.take (h * s)) := by
  obtain ⟨hl, ⟨rfl, rfl⟩ | ⟨g, cap, cur, rfl, h1, h2, h3, h4, h5, h6⟩⟩ := ho
  · have : h = 0 := by omega
    subst this
    simp only [Nat.zero_mul, List.take_zero, cut]
    exact own_nil w lo e s
  · refine ⟨by rw [List.length_take, hl]; exact Nat.min_eq_left (Nat.mul_le_mul_right _ hh), .inr ⟨g, cap, cur, ?_, h1, h2, by omega, h4, h5, ?_⟩⟩
    · by_cases h0 : cap = 0
      · subst h0; simp [cut]
      · simp [cut, h0, Addr.add]
    · rw [← h6, List.take_take, Nat.min_eq_left (Nat.mul_le_mul_right _ hh)]
theorem vblk_cut0 {v : Value} {h s : Nat} {x : Nat} (hx : x ∈ vblk (cut v 0 h s)) : x ∈ vblk v := by
  cases v with
  | slice a n c =>
    cases a with
    | none => simp [cut, vblk] at hx
    | some a =>
      simp only [cut] at hx
      by_cases h0 : c = 0
      · simpa [h0, vblk] using hx
      · simpa [h0, vblk, Addr.add] using hx
  | _ => exact hx
theorem vblk_cut {v : Value} {l h s : Nat} {x : Nat} (hx : x ∈ vblk (cut v l h s)) : x ∈ vblk v := by
  cases v with
  | slice a n c =>
    cases a with
    | none => simp [cut, vblk] at hx
    | some a =>
      simp only [cut] at hx
      by_cases h0 : c = l
      · simpa [h0, vblk] using hx
      · have hb : ∀ (a : Addr) k, (a.add k).block = a.block := fun a k => by unfold Addr.add; split <;> rfl
        simpa [h0, vblk, hb] using hx
  | _ => exact hx

/-- copy(dst, src) into a slice of the call's own, from its beginning. -/
theorem d_cp {t u e : TypeId} {x y : Operand} {lo s m m' by_ : Nat} {v v' : Value} {cs ys zs : List Value} (ht : P.underlying t = some (.slice e)) (he : Ty P e zs 1 by_) (hx : f.ev x = some v) (ho : Own w lo e 1 v m cs)
    (hy : f.ev y = some v') (hr : Rd w 1 v' m' ys) (h1 : ∀ c ∈ ys, c.oneCell' = true) (hs : s = min m' m) :
    Does P n f w (.call { callee := .builtin .copy, args := #[x, y], argTypes := #[t, u] }) ty
      (fun r w' => r = .int .i64 (s : Int) ∧ Own w' lo e 1 v m (ys.take s ++ cs.drop s) ∧ Keep (vblk v) w w' ∧ w'.heap.size = w.heap.size) := by
  intro a ha dst pos aft g K Q hK
  obtain ⟨ti, z, hi, hz, hzc, hsz, hby⟩ := he.parts
  have hsz' : (P.info? e).map (·.size) = some 1 := by rw [hi]; simp [hsz]
  obtain ⟨A', c', rfl, h2, h3, h4, h5, h6⟩ := hr
  have ho' := ho
  have hlc := ho.1
  rw [Nat.mul_one] at h4 hlc
  by_cases hs0 : s = 0
  · have hn : Nat.min m' m = 0 := by show min m' m = 0; omega
    obtain ⟨A, c, hv, _⟩ := ho.rd
    subst hv
    have hrun := run_copy_none (P := P) w t u ty e A A' m c m' c' ht hsz' hn
    have hr : (execOp a.eval ⟨dst, .call { callee := .builtin .copy, args := #[x, y], argTypes := #[t, u] }, ty, pos, aft, g⟩).run P w = .ok (.value (goInt 0)) w := by
      simp [execOp, resolve, invoke, builtin, ha.ev hx, ha.ev hy, hrun]
    unfold Oper.wp
    rw [hr]
    subst hs0
    exact hK _ _ ⟨rfl, by simpa using ho', Keep.refl _ _, rfl⟩
  · have hne : cs ≠ [] := fun h => by subst h; simp at hlc; omega
    obtain ⟨gb, cap, cur, rfl, q1, q2, q3, q4, q5, q6⟩ := ho.raw hne
    rw [Nat.mul_one] at q5 q6
    cases A' with
    | none => have := h5 rfl; omega
    | some a' =>
      have hlen : (ys.take s).length = Nat.min m' m := by show _ = min m' m; rw [List.length_take, h4]; omega
      have hrun := run_copy_row (P := P) w t u ty e gb 0 m cap a' m' c' cur.toArray e (ys.take s) ht hsz' q2 hlen ((h6 a' rfl).take s) (by rw [hlen, List.size_toArray]; show 0 + min m' m ≤ _; omega) (fun c hc => h1 c (List.mem_of_mem_take hc))
      have hl2 : (ys.take s).length = s := by rw [hlen]; exact hs.symm
      rw [hl2] at hrun
      have hr : (execOp a.eval ⟨dst, .call { callee := .builtin .copy, args := #[x, y], argTypes := #[t, u] }, ty, pos, aft, g⟩).run P w = .ok (.value (goInt s)) (w.setRow gb (cur.take 0 ++ ys.take s ++ cur.drop (0 + s)).toArray) := by
        simp [execOp, resolve, invoke, builtin, ha.ev hx, ha.ev hy, hrun]
      unfold Oper.wp
      rw [hr]
      refine hK _ _ ⟨rfl, ⟨by rw [List.length_append, hl2, List.length_drop, hlc]; omega, .inr ⟨gb, cap, _, rfl, q1, setRow_heap w gb _ _ e _ q2, q3, q4, ?_, ?_⟩⟩, setRow_keep _ _ _, setRow_size _ _ _⟩
      · simp only [List.size_toArray, List.length_append, List.length_take, List.length_drop, h4]; omega
      · rw [← q6]
        simp only [List.take_zero, List.nil_append, Nat.zero_add, Nat.mul_one]
        rw [List.take_append, hl2, List.take_of_length_le (by rw [hl2]; omega), List.drop_take]

/-! ### Calls -/
theorem d_call {i : FuncId} {args : Array Operand} {ats : Array TypeId} {vs : List Value} {R : Value → World → Prop} (hx : f.evs args.toList = some vs) (hc : Rets P i vs w R) :
    Does P n f w (.call { callee := .value (.func i), args := args, argTypes := ats }) ty R := by
  intro a ha dst pos aft g K Q hK
  obtain ⟨⟨fn, hf, hb, hnm⟩, hcalls⟩ := hc
  have hb' : fn.body.isNone = false := by cases h : fn.body <;> simp_all
  have hm : args.map a.eval = vs.toArray := by rw [← Array.toList_inj]; simp [ha.evs hx]
  have hr : (execOp a.eval ⟨dst, .call { callee := .value (.func i), args := args, argTypes := ats }, ty, pos, aft, g⟩).run P w = .ok (.enter i vs.toArray) w := by
    have hcf : (callFunc i vs.toArray).run P w = .ok (.enter i vs.toArray) w := by
      simp only [callFunc, Sem.run_bind, run_program, Result.andThen_ok, hf, hnm, Bool.false_eq_true, if_false, hb', Sem.run_pure]
    simp [execOp, resolve, Deferred.ofValue, Act.eval, invoke, hm, hcf]
  unfold Oper.wp
  rw [hr]
  exact Calls.mono hcalls fun e w' ⟨v, he, hv⟩ => by subst he; exact hK v w' hv

/-! ### Parts of values -/
theorem g_fld {x : Operand} {T : TypeId} {fs : Array Field} {i : Nat} {fd : Field} {cs : List Value} {u : Value} (hT : P.underlying T = some (.struct fs)) (hf : fs[i]? = some fd) (ht : scB P fd.type = true)
    (hx : f.ev x = some (.agg cs.toArray)) (hc : cs[fd.offset]? = some u) : Gives P n f w (.field T x i) ty u w := by
  intro a ha dst pos aft g
  simp [execOp, ha.ev hx, Instr.field, run_underlying hT, hf, asAgg, part, run_isAgg ht, hc]
theorem g_flda {x : Operand} {T : TypeId} {fs : Array Field} {i : Nat} {fd : Field} {cs cs' zs : List Value} {s by_ : Nat} (hT : P.underlying T = some (.struct fs)) (hf : fs[i]? = some fd) (ht : agB P fd.type = true) (hs : Ty P fd.type zs s by_)
    (hx : f.ev x = some (.agg cs.toArray)) (hc : (cs.drop fd.offset).take s = cs') : Gives P n f w (.field T x i) ty (.agg cs'.toArray) w := by
  intro a ha dst pos aft g
  subst hc
  simp [execOp, ha.ev hx, Instr.field, run_underlying hT, hf, asAgg, part, run_isAgg' ht, hs.sizeOf, List.extract_eq_take_drop]
end
end Go.Eng
