/- The walking engine, part 3: operations that make or write memory, calls, guards. Nothing here names a program. -/
import Derived.Test.YtkngeapegpehpaaEngB
import Derived.Lib.AppendZeros
namespace Go.Eng
open Go Go.IntWalk

section
variable {P : Program} {n : Nat} {f : Fr} {w : World} {ty : TypeId}

/-! ### New memory -/
theorem d_box {T : TypeId} {x : Operand} {v : Value} {cs : List Value} (hx : f.ev x = some v) (hc : v.cells = cs.toArray) :
    Does P n f w (.box T x) ty (fun v' w' => ∃ b, v' = .pointer (some ⟨b, 0, none⟩) ∧ b = w.heap.size ∧ Bk w' b T cs ∧ Keep [] w w' ∧ w'.heap.size = w.heap.size + 1) := by
  intro a ha dst pos aft g K Q hK
  have hr : (execOp a.eval ⟨dst, .box T x, ty, pos, aft, g⟩).run P w = .ok (.value (.pointer (some ⟨w.heap.size, 0, none⟩))) (w.alloc (.cells cs.toArray T)) := by
    simp [execOp, ha.ev hx, Instr.box, newVar, newRow, hc]
  unfold Oper.wp
  rw [hr]
  exact hK _ _ ⟨_, rfl, rfl, bk_alloc _ _ _, keep_alloc _ _, by simp⟩
theorem d_alloc {T : TypeId} {zs : List Value} {s b : Nat} (hT : Ty P T zs s b) :
    Does P n f w (.alloc T) ty (fun v' w' => ∃ b, v' = .pointer (some ⟨b, 0, none⟩) ∧ b = w.heap.size ∧ Bk w' b T zs ∧ Keep [] w w' ∧ w'.heap.size = w.heap.size + 1) := by
  intro a ha dst pos aft g K Q hK
  obtain ⟨z, hz, hrz⟩ := hT.zeroValue w
  have hr : (execOp a.eval ⟨dst, .alloc T, ty, pos, aft, g⟩).run P w = .ok (.value (.pointer (some ⟨w.heap.size, 0, none⟩))) (w.alloc (.cells zs.toArray T)) := by
    subst hz
    simp [execOp, Instr.alloc, hrz, newVar, newRow]
  unfold Oper.wp
  rw [hr]
  exact hK _ _ ⟨_, rfl, rfl, bk_alloc _ _ _, keep_alloc _ _, by simp⟩

/-! ### Stores -/
theorem d_st {t : TypeId} {x y : Operand} {b o : Nat} {T : TypeId} {cs zs : List Value} {v : Value} {by_ : Nat} (ht : Ty P t zs 1 by_) (hx : f.ev x = some (.pointer (some ⟨b, o, none⟩))) (hy : f.ev y = some v)
    (hv : v.oneCell' = true) (hb : Bk w b T cs) (ho0 : Nat.blt o cs.length = true) :
    Does P n f w (.store t x y) ty (fun _ w' => Bk w' b T (cs.set o v) ∧ Keep [b] w w' ∧ w'.heap.size = w.heap.size) := by
  intro a ha dst pos aft g K Q hK
  have ho : o < cs.length := blt_lt ho0
  have hvc : v.cells = #[v] := by cases v <;> first | rfl | cases hv
  have hr : (execOp a.eval ⟨dst, .store t x y, ty, pos, aft, g⟩).run P w = .ok .skip (w.setCell ⟨b, o, none⟩ v) := by
    have h1 : w.cell? ⟨b, o, none⟩ = some cs[o] := by rw [hb.cell, List.getElem?_eq_getElem ho]
    simp [execOp, ha.ev hx, ha.ev hy, Instr.storeAt, Instr.sureAddr, storeVar, ht.sizeOf, hvc, storeCells, run_store P w _ v _ hv, h1, hb.frozen, Addr.add_zero']
  unfold Oper.wp
  rw [hr]
  exact hK undef _ ⟨hb.set o v, keep_setCell w ⟨b, o, none⟩ v, by simp⟩
theorem setRow_keep (w : World) (g : Nat) (cs : Array Value) : Keep [g] w (w.setRow g cs) :=
  ⟨rfl, rfl, rfl, by simp [World.setRow], fun k _ hn => setRow_other w g k cs (fun e => hn (by simp [e]))⟩
theorem setRow_size (w : World) (g : Nat) (cs : Array Value) : (w.setRow g cs).heap.size = w.heap.size := by simp [World.setRow]
/-- The store of a struct or an array into a row. -/
theorem d_sta {t : TypeId} {x y : Operand} {b o : Nat} {T : TypeId} {cs zs vs : List Value} {s by_ : Nat} (ht : Ty P t zs s by_) (hx : f.ev x = some (.pointer (some ⟨b, o, none⟩))) (hy : f.ev y = some (.agg vs.toArray))
    (hl : vs.length = s) (hv : ∀ v ∈ vs, v.oneCell' = true) (hb : Bk w b T cs) (ho0 : Nat.ble (o + s) cs.length = true) :
    Does P n f w (.store t x y) ty (fun _ w' => Bk w' b T (cs.take o ++ vs ++ cs.drop (o + s)) ∧ Keep [b] w w' ∧ w'.heap.size = w.heap.size) := by
  intro a ha dst pos aft g K Q hK
  subst hl
  have ho : o + vs.length ≤ cs.length := Nat.le_of_ble_eq_true ho0
  have hst := run_storeCells_at P b o T vs 0 cs.toArray w hb (by simpa using ho) hv
  have hr : (execOp a.eval ⟨dst, .store t x y, ty, pos, aft, g⟩).run P w = .ok .skip (w.setRow b (cs.take o ++ vs ++ cs.drop (o + vs.length)).toArray) := by
    simp only [Nat.add_zero] at hst
    simp [execOp, ha.ev hx, ha.ev hy, Instr.storeAt, Instr.sureAddr, storeVar, ht.sizeOf, Value.cells, hst]
  unfold Oper.wp
  rw [hr]
  exact hK undef _ ⟨setRow_heap w b _ _ T _ hb, setRow_keep _ _ _, setRow_size _ _ _⟩
/-- The store of a whole variable. -/
theorem d_stw {t : TypeId} {x y : Operand} {b : Nat} {T : TypeId} {cs zs vs : List Value} {s by_ : Nat} (ht : Ty P t zs s by_) (hx : f.ev x = some (.pointer (some ⟨b, 0, none⟩))) (hy : f.ev y = some (.agg vs.toArray))
    (hl : vs.length = s) (hv : ∀ v ∈ vs, v.oneCell' = true) (hb : Bk w b T cs) (ho : cs.length = s) :
    Does P n f w (.store t x y) ty (fun _ w' => Bk w' b T vs ∧ Keep [b] w w' ∧ w'.heap.size = w.heap.size) :=
  (d_sta ht hx hy hl hv hb (Nat.ble_eq_true_of_le (by omega))).mono fun _ w' ⟨h1, h2, h3⟩ => ⟨by rwa [List.take_zero, List.nil_append, Nat.zero_add, List.drop_of_length_le (by omega), List.append_nil] at h1, h2, h3⟩
theorem Own.raw {lo : Nat} {e : TypeId} {s m : Nat} {v : Value} {cs : List Value} (h : Own w lo e s v m cs) (h0 : cs ≠ []) : ∃ g cap cur, v = .slice (some ⟨g, 0, none⟩) m cap ∧ lo ≤ g ∧ Bk w g e cur ∧ m ≤ cap ∧ cap ≤ maxLen ∧ cur.length = cap * s ∧ cur.take (m * s) = cs := by
  obtain ⟨hl, ⟨rfl, rfl⟩ | ⟨g, cap, cur, rfl, h1, h2, h3, h4, h5, h6⟩⟩ := h
  · rw [Nat.zero_mul] at hl; exact absurd (List.eq_nil_of_length_eq_zero hl) h0
  · exact ⟨g, cap, cur.toList, rfl, h1, by simpa [Bk] using h2, h3, h4, by simpa using h5, h6⟩
/-- The store of one cell into a slice of the call's own. -/
theorem d_sto {t e : TypeId} {x y : Operand} {lo s m j : Nat} {v u : Value} {cs zs : List Value} {by_ : Nat} (ht : Ty P t zs 1 by_) (hx : f.ev x = some (.pointer (some (ea v j)))) (hy : f.ev y = some u)
    (hu : u.oneCell' = true) (ho : Own w lo e s v m cs) (hj : j < cs.length) :
    Does P n f w (.store t x y) ty (fun _ w' => Own w' lo e s v m (cs.set j u) ∧ Keep (vblk v) w w' ∧ w'.heap.size = w.heap.size) := by
  obtain ⟨g, cap, cur, rfl, h1, h2, h3, h4, h5, h6⟩ := ho.raw (by intro h; subst h; simp at hj)
  have hj' : j < cur.length := by have := congrArg List.length h6; simp at this; omega
  have hea : ea (.slice (some ⟨g, 0, none⟩) m cap) j = ⟨g, j, none⟩ := by simp [ea, Addr.add_lit]
  rw [hea] at hx
  refine (d_st ht hx hy hu h2 (Nat.ble_eq_true_of_le hj')).mono fun _ w' ⟨k1, k2, k3⟩ => ⟨?_, k2, k3⟩
  refine ⟨by rw [List.length_set]; exact ho.1, .inr ⟨g, cap, (cur.set j u).toArray, rfl, h1, k1, h3, h4, by simpa using h5, ?_⟩⟩
  rw [← h6, List.take_set]

/-! ### make, slices of parts, append, copy -/
theorem zerosOf {zs : List Value} {z : Value} (h : zs = [z]) (m : Nat) : (madeCells zs.toArray m).toList = List.replicate m z := by
  subst h; exact toList_madeCells_one z m
theorem le_maxLen {m : Nat} (h : (m : Int) ≤ 9223372036854775807) : m ≤ maxLen := by
  have h9 : (9223372036854775807 : Nat) = maxLen := by decide
  omega
theorem d_mk {t e : TypeId} {x y : Operand} {z : Value} {by_ : Nat} {i : Int} (ht : P.underlying t = some (.slice e)) (he : Ty P e [z] 1 by_) (hx : f.ev x = some (.int .i64 i)) (hy : f.ev y = some (.int .i64 i))
    (h0 : 0 ≤ i) (hb : i * by_ ≤ 281474976710656 ∧ i ≤ 9223372036854775807) :
    Does P n f w (.makeSlice t x y) ty (fun v' w' => Own w' w.heap.size e 1 v' i.toNat (List.replicate i.toNat z) ∧ isNil v' = false ∧ vblk v' = [w.heap.size] ∧ Keep [] w w' ∧ w'.heap.size = w.heap.size + 1) := by
  intro a ha dst pos aft g K Q hK
  obtain ⟨m, rfl⟩ := Int.eq_ofNat_of_zero_le h0
  obtain ⟨ti, z', hi, hz, hzc, hs, hby⟩ := he.parts
  have hb1 := hb.1
  have hb' : by_ * m ≤ 281474976710656 := by rw [← Int.natCast_mul] at hb1; rw [Nat.mul_comm]; omega
  have hz2 : z'.cells = #[z] := by rw [← Array.toList_inj]; simpa using hzc
  have hm : (m : Int) ≤ 9223372036854775807 := hb.2
  have hr := run_make (P := P) w t e ti z' ht hi hz .i64 .i64 (m : Int) (m : Int) (by omega) (Int.le_refl _) (by rw [hby, ← Int.natCast_mul]; omega) hm
  unfold Oper.wp
  have hrun : (execOp a.eval ⟨dst, .makeSlice t x y, ty, pos, aft, g⟩).run P w = .ok (.value (.slice (some ⟨w.heap.size, 0, none⟩) m m)) (w.alloc (.cells (List.replicate m z).toArray e)) := by
    have hmc : madeCells #[z] m = (List.replicate m z).toArray := by rw [← Array.toList_inj, toList_madeCells_one]
    simp only [execOp, ha.ev hx, ha.ev hy, Sem.run_bind, hr, Result.andThen_ok, Sem.run_pure, Int.toNat_natCast, hz2, hs, Nat.mul_one, hmc]
  rw [hrun]
  exact hK _ _ ⟨own_of_bk (bk_alloc _ _ _) (Nat.le_refl _) (by rw [List.length_replicate, Nat.mul_one]; rfl) (le_maxLen hm), rfl, rfl, keep_alloc _ _, by simp⟩
theorem bv_zeros (m : Nat) : List.replicate m (Value.int .u8 0) = bv (List.replicate m 0) := by simp [bv]
def enum : Nat → List Operand → List (Nat × Operand)
  | _, [] => []
  | i, x :: r => (i, x) :: enum (i + 1) r
theorem evs_map {a : Act} (ha : Kn n f a) : ∀ {xs : List Operand} {vs : List Value} (i : Nat), f.evs xs = some vs → (enum i xs).map (fun p => (p.1, a.eval p.2)) = (enum i xs).zipWith (fun p v => (p.1, v)) vs
  | [], vs, i, h => by simp [enum]
  | x :: r, vs, i, h => by
    unfold Fr.evs at h
    split at h
    · rename_i v hv
      split at h
      · rename_i us hu
        simp only [Option.some.injEq] at h
        subst h
        simp only [enum, List.map_cons, List.zipWith_cons_cons, ha.ev hv, evs_map ha (i + 1) hu]
      · cases h
    · cases h
def enumV : Nat → List Value → List (Nat × Value)
  | _, [] => []
  | i, x :: r => (i, x) :: enumV (i + 1) r
theorem evs_enum {a : Act} (ha : Kn n f a) : ∀ {xs : List Operand} {vs : List Value} (i : Nat), f.evs xs = some vs → (enum i xs).map (fun p => (p.1, a.eval p.2)) = enumV i vs
  | [], vs, i, h => by simp only [Fr.evs, Option.some.injEq] at h; subst h; rfl
  | x :: r, vs, i, h => by
    unfold Fr.evs at h
    split at h
    · rename_i v hv
      split at h
      · rename_i us hu
        simp only [Option.some.injEq] at h
        subst h
        simp only [enum, enumV, List.map_cons, ha.ev hv, evs_enum ha (i + 1) hu]
      · cases h
    · cases h
theorem fold_set (o : Nat) : ∀ (vs : List Value) (j : Nat) (cur : List Value), o + j + vs.length ≤ cur.length →
    (vs.zipIdx j).foldl (fun (cs : Array Value) (c : Value × Nat) => cs.setIfInBounds (o + c.2) c.1) cur.toArray = (cur.take (o + j) ++ vs ++ cur.drop (o + j + vs.length)).toArray
  | [], j, cur, h => by simp
  | v :: r, j, cur, h => by
    simp only [List.zipIdx_cons, List.foldl_cons, List.setIfInBounds_toArray]
    rw [fold_set o r (j + 1) (cur.set (o + j) v) (by simp at h ⊢; omega)]
    congr 1
    simp only [List.length_cons] at h
    have hlt : o + j < cur.length := by omega
    have e1 : o + (j + 1) = (o + j) + 1 := by omega
    rw [e1, List.take_succ_eq_append_getElem (by simpa using hlt), List.drop_set_of_lt (by omega), List.take_set]
    have e2 : (cur.take (o + j)).set (o + j) v = cur.take (o + j) := by
      apply List.set_eq_of_length_le; simp; omega
    rw [e2]
    simp [Nat.add_assoc, Nat.add_comm 1]
theorem fill_all (s : Nat) : ∀ (vs : List Value) (i : Nat) (cur : List Value), (∀ v ∈ vs, v.cells.size = s) → (i + vs.length) * s ≤ cur.length → 
    Instr.fill (fun i => some (i * s, s)) cur.toArray (enumV i vs) = some (cur.take (i * s) ++ vs.flatMap (fun v => v.cells.toList) ++ cur.drop ((i + vs.length) * s)).toArray
  | [], i, cur, _, h => by simp [enumV, Instr.fill]
  | v :: r, i, cur, hv, h => by
    have hs := hv v (by simp)
    simp only [List.length_cons] at h
    have h2 : i * s + s ≤ cur.length := by
      have : (i + 1) * s ≤ (i + (r.length + 1)) * s := Nat.mul_le_mul_right _ (by omega)
      rw [Nat.add_mul, Nat.one_mul] at this; omega
    simp only [enumV, Instr.fill, hs]
    rw [if_neg (by simp; omega)]
    have hz := fold_set (i * s) v.cells.toList 0 cur (by simp [hs]; omega)
    have hz' : (v.cells.zipIdx.foldl (fun (cs : Array Value) (c : Value × Nat) => cs.setIfInBounds (i * s + c.2) c.1) cur.toArray) = (cur.take (i * s) ++ v.cells.toList ++ cur.drop (i * s + s)).toArray := by
      rw [← Array.foldl_toList, Array.toList_zipIdx]
      simpa [hs] using hz
    rw [hz']
    have hl : (cur.take (i * s) ++ v.cells.toList ++ cur.drop (i * s + s)).length = cur.length := by simp [hs]; omega
    have := fill_all s r (i + 1) (cur.take (i * s) ++ v.cells.toList ++ cur.drop (i * s + s)) (fun u hu => hv u (by simp [hu])) (by rw [hl]; rw [show i + 1 + r.length = i + (r.length + 1) from by omega]; exact h)
    rw [this]
    congr 2
    have e1 : (i + 1) * s = (cur.take (i * s) ++ v.cells.toList).length := by simp [hs, Nat.add_mul]; omega
    have e2 : (cur.take (i * s) ++ v.cells.toList ++ cur.drop (i * s + s)).take ((i + 1) * s) = cur.take (i * s) ++ v.cells.toList := by rw [e1, List.take_left']; rfl
    have e3 : (i + 1 + r.length) * s = (cur.take (i * s) ++ v.cells.toList).length + r.length * s := by rw [← e1, Nat.add_mul]
    have e4 : (cur.take (i * s) ++ v.cells.toList ++ cur.drop (i * s + s)).drop ((i + 1 + r.length) * s) = cur.drop ((i + (r.length + 1)) * s) := by
      rw [e3, List.drop_append]
      simp only [Nat.add_sub_cancel_left, List.drop_drop]
      rw [List.drop_of_length_le (by omega), List.nil_append]
      congr 1
      simp only [Nat.add_mul, Nat.one_mul]; omega
    rw [e2, e4]
    simp
theorem flat_length (s : Nat) : ∀ (vs : List Value), (∀ v ∈ vs, v.cells.size = s) → (vs.flatMap fun v => v.cells.toList).length = vs.length * s
  | [], _ => by simp
  | v :: r, h => by
    have h1 := h v (by simp)
    have h2 := flat_length s r (fun u hu => h u (by simp [hu]))
    rw [List.flatMap_cons, List.length_append, h2, Array.length_toList, h1, List.length_cons, Nat.add_mul, Nat.one_mul]; omega
theorem d_bs {t e : TypeId} {m s by_ : Nat} {parts : Array (Nat × Operand)} {xs : List Operand} {vs zs : List Value} (ht : P.underlying t = some (.slice e)) (he : Ty P e zs s by_) (hs0 : 0 < s)
    (hp : parts.toList = enum 0 xs) (hx : f.evs xs = some vs) (hm : vs.length = m) (hv : ∀ v ∈ vs, v.cells.size = s) (hlim : m * s ≤ 16777216) :
    Does P n f w (.buildSlice t m parts) ty (fun v' w' => Own w' w.heap.size e s v' m (vs.flatMap fun v => v.cells.toList) ∧ isNil v' = false ∧ vblk v' = [w.heap.size] ∧ Keep [] w w' ∧ w'.heap.size = w.heap.size + 1) := by
  intro a ha dst pos aft g K Q hK
  have hmaxl : m ≤ maxLen := by
    have h9 : (9223372036854775807 : Nat) = maxLen := by decide
    have := Nat.le_mul_of_pos_right m hs0
    omega
  obtain ⟨ti, z, hi, hz, hzc, hs, hby⟩ := he.parts
  have hpv : (parts.map fun p => (p.1, a.eval p.2)) = (enumV 0 vs).toArray := by
    rw [← Array.toList_inj]; simp [hp, evs_enum ha 0 hx]
  have hfl : (vs.flatMap fun v => v.cells.toList).length = m * s := by
    rw [← hm]; exact flat_length s vs hv
  have hr : (execOp a.eval ⟨dst, .buildSlice t m parts, ty, pos, aft, g⟩).run P w = .ok (.value (.slice (some ⟨w.heap.size, 0, none⟩) m m)) (w.alloc (.cells (vs.flatMap fun v => v.cells.toList).toArray e)) := by
    have hlim' : ¬ (2 ^ 24 < m * s) := by omega
    by_cases h0 : m * s = 0
    · have hfl0 : (vs.flatMap fun v => v.cells.toList) = [] := List.eq_nil_of_length_eq_zero (by omega)
      have hfill := fill_all s vs 0 [] hv (by rw [Nat.zero_add, hm]; omega)
      have hz9 : (Array.map (fun _ => (default : Value)) (Array.range 0)) = #[] := by simp
      simp only [execOp, hpv, Instr.buildSlice, Sem.run_bind, run_underlying ht, Result.andThen_ok, he.sizeOf, gt_iff_lt, h0, if_true, Sem.run_pure]
      simp
      rw [hz9, hfill]
      simp [hfl0, newRow]
    · obtain ⟨z2, hz2, hrz⟩ := he.zeroValue w
      have hfill := fill_all s vs 0 ((Array.range (m * s)).map (fun j => z2.cells[j % z2.cells.size]!)).toList hv (by rw [Nat.zero_add, hm]; simp)
      simp only [Array.toArray_toList] at hfill
      simp only [execOp, hpv, Instr.buildSlice, Sem.run_bind, run_underlying ht, Result.andThen_ok, he.sizeOf, gt_iff_lt, if_neg hlim', if_neg h0, hrz, Sem.run_pure]
      have hd : (List.drop (m * s) (List.map (fun x => z2.cells[x % z2.cells.size]!) (List.range (m * s)))) = [] := List.drop_of_length_le (by simp)
      simp [hfill, hm, newRow, hd]
  unfold Oper.wp
  rw [hr]
  exact hK _ _ ⟨own_of_bk (bk_alloc _ _ _) (Nat.le_refl _) hfl hmaxl, rfl, rfl, keep_alloc _ _, by simp⟩
end
end Go.Eng
