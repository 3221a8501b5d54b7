/- The walking engine, part 17: backward jumps as loops, long rows of numbers read and written in parts, slices of slices. Nothing here names a program. -/
import Derived.Test.YtkngeapegpehpaaEngO
namespace Go.Eng
open Go Go.IntWalk
section
variable {P : Program} {fin : Exit → Act → World → Prop} {n : Nat} {k : List KI} {f : Fr} {w : World} {ty : TypeId}
/-- Code behind a label to which it jumps back: shown by a measure that falls at each jump. -/
theorem tw_again {Γ : Type} {c body : Code} (fr : Γ → Fr) (I : Γ → World → Prop) (μ : Γ → Nat) (γ₀ : Γ) (h0 : Fr.sub (fr γ₀) f) (hI : I γ₀ w) {m : Nat} (hm : μ γ₀ ≤ m)
    (hpos : ∀ γ w, I γ w → 0 < μ γ)
    (h : ∀ (m : Nat) (γ : Γ) (w : World), I γ w → μ γ ≤ m + 1 → (∀ γ' w', μ γ' ≤ m → I γ' w' → TW P fin n (.c c :: .s m body :: k) (fr γ') w') → TW P fin n (.c c :: .s (m + 1) body :: k) (fr γ) w) :
    TW P fin n (.c c :: .s m body :: k) f w := by
  refine tw_keep (fr γ₀) h0 ?_
  clear h0
  induction m generalizing γ₀ w with
  | zero => have := hpos γ₀ w hI; omega
  | succ m ih => exact h m γ₀ w hI hm (fun γ' w' hm' hI' => ih γ' hI' hm')
def atN (W : Nat → Int) (o : Nat) : Nat → Int := fun c => W (o + c)
def updR (W : Nat → Int) (o s : Nat) (g : Nat → Int) : Nat → Int := fun j => bif Nat.ble o j && Nat.blt j (o + s) then g (j - o) else W j
theorem atN_updR_same {W g : Nat → Int} {o s c : Nat} (h : c < s) : atN (updR W o s g) o c = g c := by
  unfold atN updR
  rw [show Nat.ble o (o + c) = true from Nat.ble_eq_true_of_le (by omega), show Nat.blt (o + c) (o + s) = true from Nat.ble_eq_true_of_le (by omega), show o + c - o = c by omega]; rfl
theorem atN_updR_other {W g : Nat → Int} {o o' s c : Nat} (h : o' + c < o ∨ o + s ≤ o' + c) : atN (updR W o s g) o' c = atN W o' c := by
  unfold atN updR
  rcases h with h | h
  · rw [show Nat.ble o (o' + c) = false from by rw [← Bool.not_eq_true, Nat.ble_eq]; omega]; rfl
  · rw [show Nat.blt (o' + c) (o + s) = false from by rw [← Bool.not_eq_true]; unfold Nat.blt; rw [Nat.ble_eq]; omega, Bool.and_false]; rfl
theorem iv_part (k : IntKind) (W : Nat → Int) {m o s : Nat} (h : o + s ≤ m) : ((iv k m W).drop o).take s = iv k s (atN W o) := by
  apply List.ext_getElem?
  intro j
  rw [List.getElem?_take]
  by_cases hj : j < s
  · rw [if_pos hj, List.getElem?_drop, iv_get (by omega), iv_get hj]; rfl
  · rw [if_neg hj, List.getElem?_eq_none (by rw [ivF_length]; omega)]
theorem iv_join (k : IntKind) (W g : Nat → Int) {m o s : Nat} (h : o + s ≤ m) : (iv k m W).take o ++ iv k s g ++ (iv k m W).drop (o + s) = iv k m (updR W o s g) := by
  apply List.ext_getElem?
  intro j
  have l1 : ((iv k m W).take o).length = o := by rw [List.length_take, ivF_length]; omega
  by_cases hjm : j < m
  · rw [iv_get hjm]
    by_cases h1 : j < o
    · rw [List.append_assoc, List.getElem?_append_left (by omega), List.getElem?_take, if_pos h1, iv_get hjm]
      unfold updR
      rw [show Nat.ble o j = false from by rw [← Bool.not_eq_true, Nat.ble_eq]; omega]; rfl
    · by_cases h2 : j < o + s
      · rw [List.append_assoc, List.getElem?_append_right (by omega), l1, List.getElem?_append_left (by rw [ivF_length]; omega), iv_get (by omega)]
        unfold updR
        rw [show Nat.ble o j = true from Nat.ble_eq_true_of_le (by omega), show Nat.blt j (o + s) = true from Nat.ble_eq_true_of_le (by omega)]; rfl
      · rw [List.getElem?_append_right (by rw [List.length_append, l1, ivF_length]; omega), List.length_append, l1, ivF_length, List.getElem?_drop, show o + s + (j - (o + s)) = j by omega, iv_get hjm]
        unfold updR
        rw [show Nat.blt j (o + s) = false from by rw [← Bool.not_eq_true]; unfold Nat.blt; rw [Nat.ble_eq]; omega, Bool.and_false]; rfl
  · rw [List.getElem?_eq_none (by rw [List.length_append, List.length_append, l1, ivF_length, List.length_drop, ivF_length]; omega), List.getElem?_eq_none (by rw [ivF_length]; omega)]
/-- A part of a long row of numbers is read. -/
theorem g_ldiv {x : Operand} {t : TypeId} {zs : List Value} {s b g o m : Nat} {T : TypeId} {kd : IntKind} {W : Nat → Int} (ht : agB P t = true) (hs : Ty P t zs s b) (hx : f.ev x = some (.pointer (some ⟨g, o, none⟩)))
    (hb : Bk w g T (iv kd m W)) (h : o + s ≤ m) : Gives P n f w (.load t x) ty (.agg (iv kd s (atN W o)).toArray) w :=
  g_ldab ht hs hx hb (iv_part kd W h) (ivF_length _ _ _ _)
/-- A part of a long row of numbers is written. -/
theorem d_stiv {t : TypeId} {x y : Operand} {b o m : Nat} {T : TypeId} {zs : List Value} {s by_ : Nat} {kd : IntKind} {W g : Nat → Int} (ht : Ty P t zs s by_) (hx : f.ev x = some (.pointer (some ⟨b, o, none⟩))) (hy : f.ev y = some (.agg (iv kd s g).toArray))
    (hb : Bk w b T (iv kd m W)) (h : o + s ≤ m) :
    Does P n f w (.store t x y) ty (fun _ w' => Bk w' b T (iv kd m (updR W o s g)) ∧ Keep [b] w w' ∧ w'.heap.size = w.heap.size) :=
  (d_sta ht hx hy (ivF_length _ _ _ _) ivF_one hb (Nat.ble_eq_true_of_le (by rw [ivF_length]; exact h))).mono fun _ w' ⟨h1, h2, h3⟩ => ⟨by rwa [iv_join kd W g h] at h1, h2, h3⟩
/-- A remainder of any number. -/
theorem g_remt {kd : IntKind} {t u : TypeId} {x y : Operand} {i j : Int} (hx : f.ev x = some (.int kd i)) (hy : f.ev y = some (.int kd j)) (h : j ≠ 0) :
    Gives P n f w (.binOp .rem t x y u) ty (.int kd (i.tmod j)) w := run_bin hx hy guard_int (by rw [binOp_rem]; simp [Op.intDiv, h])
/-- A slice of a slice whose value is known, whatever the world. -/
theorem g_slv {x : Operand} {t e : TypeId} {lo hi : Option Operand} {zs : List Value} {s b m c : Nat} {A : Option Addr} {l h : Int} (ht : P.underlying t = some (.slice e)) (he : Ty P e zs s b)
    (hx : f.ev x = some (.slice A m c)) (h2 : c ≤ maxLen) (h1 : m ≤ c)
    (hlo : (lo = none ∧ l = 0) ∨ ∃ o k, lo = some o ∧ f.ev o = some (.int k l)) (hhi : (hi = none ∧ h = m) ∨ ∃ o k, hi = some o ∧ f.ev o = some (.int k h)) (hb : 0 ≤ l ∧ l ≤ h ∧ h ≤ c) :
    Gives P n f w (.slice t x lo hi none) ty (cut (.slice A m c) l.toNat h.toNat s) w := by
  intro a ha dst pos aft g
  have ht' : P.underlying t = some (.slice (P.elem t)) := by unfold Program.elem; rw [ht]
  have hel : P.elem t = e := by unfold Program.elem; rw [ht]
  have hbb : (Instr.sliceBounds true m c (lo.map a.eval) (hi.map a.eval) none).run P w = .ok (l.toNat, h.toNat, c) w := by
    have e2 : (h.toNat : Int) = h := Int.toNat_of_nonneg (by omega)
    rcases hlo with ⟨rfl, rfl⟩ | ⟨o, kk, rfl, ho⟩ <;> rcases hhi with ⟨rfl, rfl⟩ | ⟨o', kk', rfl, ho'⟩
    · simp [Instr.sliceBounds]
    · simp [Instr.sliceBounds, ha.ev ho', run_sliceBound w kk' h c _ (by omega) (by omega)]
    · simp [Instr.sliceBounds, ha.ev ho, run_sliceBound w kk l m _ (by omega) (by omega)]
    · simp [Instr.sliceBounds, ha.ev ho, ha.ev ho', run_sliceBound w kk' h c _ (by omega) (by omega), run_sliceBound w kk l h.toNat _ (by omega) (by omega)]
  simp only [execOp, ha.ev hx, Sem.run_bind, Option.map_none, run_sliceAt_slice w t _ _ _ _ ht', run_slice_any w t A m c ht', hbb, Result.andThen_ok, hel, he.sizeOf, sliced, Sem.run_pure, Eng.cut]
/-- copy(dst[l:], src) into a slice of the call's own. -/
theorem d_cpAt {t u e : TypeId} {x y : Operand} {lo s l m m' by_ : Nat} {v v' : Value} {cs ys zs : List Value} (ht : P.underlying t = some (.slice e)) (he : Ty P e zs 1 by_) (hx : f.ev x = some (cut v l m 1)) (ho : Own w lo e 1 v m cs) (hl : l < m)
    (hy : f.ev y = some v') (hr : Rd w 1 v' m' ys) (h1 : ∀ c ∈ ys, c.oneCell' = true) (hs : s = min m' (m - l)) (hs0 : 0 < s) :
    Does P n f w (.call { callee := .builtin .copy, args := #[x, y], argTypes := #[t, u] }) ty
      (fun r w' => r = .int .i64 (s : Int) ∧ Own w' lo e 1 v m (cs.take l ++ ys.take s ++ cs.drop (l + s)) ∧ Keep (vblk v) w w' ∧ w'.heap.size = w.heap.size) := by
  intro a ha dst pos aft g K Q hK
  obtain ⟨ti, z, hi, hz, hzc, hsz, hby⟩ := he.parts
  have hsz' : (P.info? e).map (·.size) = some 1 := by rw [hi]; simp [hsz]
  obtain ⟨A', c', rfl, h2, h3, h4, h5, h6⟩ := hr
  have hlc := ho.1
  rw [Nat.mul_one] at h4 hlc
  have hne : cs ≠ [] := fun h => by subst h; simp at hlc; omega
  obtain ⟨gb, cap, cur, rfl, q1, q2, q3, q4, q5, q6⟩ := ho.raw hne
  rw [Nat.mul_one] at q5 q6
  have hcut : cut (.slice (some ⟨gb, 0, none⟩) m cap) l m 1 = .slice (some ⟨gb, l, none⟩) (m - l) (cap - l) := by
    have : cap ≠ l := by omega
    simp [cut, this, Addr.add_lit]
  rw [hcut] at hx
  cases A' with
  | none => have := h5 rfl; omega
  | some a' =>
    have hlen : (ys.take s).length = Nat.min m' (m - l) := by show _ = min m' (m - l); rw [List.length_take, h4]; omega
    have hl2 : (ys.take s).length = s := by rw [hlen]; exact hs.symm
    have hrun := run_copy_row (P := P) w t u ty e gb l (m - l) (cap - l) a' m' c' cur.toArray e (ys.take s) ht hsz' q2 hlen ((h6 a' rfl).take s) (by rw [hl2, List.size_toArray]; omega) (fun c hc => h1 c (List.mem_of_mem_take hc))
    rw [hl2] at hrun
    have hr : (execOp a.eval ⟨dst, .call { callee := .builtin .copy, args := #[x, y], argTypes := #[t, u] }, ty, pos, aft, g⟩).run P w = .ok (.value (goInt s)) (w.setRow gb (cur.take l ++ ys.take s ++ cur.drop (l + s)).toArray) := by
      simp [execOp, resolve, invoke, builtin, ha.ev hx, ha.ev hy, hrun]
    unfold Oper.wp
    rw [hr]
    refine hK _ _ ⟨rfl, ⟨by rw [List.length_append, List.length_append, hl2, List.length_take, List.length_drop, hlc]; omega, .inr ⟨gb, cap, _, rfl, q1, setRow_heap w gb _ _ e _ q2, q3, q4, ?_, ?_⟩⟩, setRow_keep _ _ _, setRow_size _ _ _⟩
    · simp only [List.size_toArray, List.length_append, List.length_take, List.length_drop, h4]; omega
    · rw [← q6]
      simp only [Nat.mul_one]
      have e1 : (cur.take l).length = l := by rw [List.length_take]; omega
      rw [List.append_assoc, List.append_assoc, List.take_append, List.take_append, e1, hl2, List.take_take, List.take_take, List.take_take, List.drop_take, Nat.min_eq_right (show l ≤ m by omega), Nat.min_eq_right (show s ≤ m - l by omega), Nat.min_eq_left (show l ≤ m by omega), show m - l - s = m - (l + s) by omega]
end
end Go.Eng
