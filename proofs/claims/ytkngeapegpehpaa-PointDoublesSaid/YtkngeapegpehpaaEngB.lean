/- The walking engine, part 2: memory, and one law an operation. Nothing here names a program. -/
import Derived.Test.YtkngeapegpehpaaEngA
import Derived.Laws.BytesArg
import Derived.Laws.CopyOwn
import Derived.Lib.ConvBytes
import Derived.IntWalk
import Derived.WalkSpells
import Derived.Lib.SliceRun
namespace Go.Eng
open Go Go.IntWalk

/-! ### Worlds -/
structure Keep (S : List Nat) (w w' : World) : Prop where
  os : w'.os = w.os
  tape : w'.tape = w.tape
  output : w'.output = w.output
  size : w.heap.size ≤ w'.heap.size
  block : ∀ k, k < w.heap.size → k ∉ S → w'.heap[k]? = w.heap[k]?
theorem Keep.refl (S : List Nat) (w : World) : Keep S w w := ⟨rfl, rfl, rfl, Nat.le_refl _, fun _ _ _ => rfl⟩
theorem Keep.trans {S : List Nat} {a b c : World} (h : Keep S a b) (k : Keep S b c) : Keep S a c :=
  ⟨k.os.trans h.os, k.tape.trans h.tape, k.output.trans h.output, Nat.le_trans h.size k.size, fun i hi hs => (k.block i (Nat.lt_of_lt_of_le hi h.size) hs).trans (h.block i hi hs)⟩
theorem Keep.mono {S S' : List Nat} {w w' : World} (h : Keep S w w') (hs : ∀ x, x ∈ S → x ∈ S') : Keep S' w w' := ⟨h.os, h.tape, h.output, h.size, fun k hk hn => h.block k hk (fun hm => hn (hs k hm))⟩
theorem Keep.weak {S : List Nat} {w w' : World} (h : Keep [] w w') : Keep S w w' := h.mono (fun _ hx => by cases hx)
/-- What was written is newer than B: below B nothing has turned. -/
theorem Keep.below {S : List Nat} {w w' : World} {B : Nat} (h : Keep S w w') (hB : B ≤ w.heap.size) (hS : ∀ x, x ∈ S → B ≤ x) : RowKit.Below B w w' :=
  ⟨h.os, h.tape, h.output, h.size, fun k hk => h.block k (Nat.lt_of_lt_of_le hk hB) (fun hm => by have := hS k hm; omega)⟩
theorem Keep.below0 {w w' : World} (h : Keep [] w w') : RowKit.Below w.heap.size w w' := h.below (Nat.le_refl _) (fun x hx => by cases hx)
theorem keep_of_below {w w' : World} (h : RowKit.Below w.heap.size w w') : Keep [] w w' := ⟨h.os, h.tape, h.output, h.size, fun k hk _ => h.block k hk⟩
/-- What is written behind the beginning and newer than it is not seen from the beginning. -/
theorem Keep.new {S S' : List Nat} {w w1 w2 : World} (h : Keep S w w1) (k : Keep S' w1 w2) (hS : ∀ x, x ∈ S' → w.heap.size ≤ x ∨ x ∈ S) : Keep S w w2 :=
  ⟨k.os.trans h.os, k.tape.trans h.tape, k.output.trans h.output, Nat.le_trans h.size k.size, fun i hi hs =>
    (k.block i (Nat.lt_of_lt_of_le hi h.size) (fun hm => by rcases hS i hm with h1 | h1; · omega
                                                            · exact hs h1)).trans (h.block i hi hs)⟩
theorem keep_alloc (w : World) (o : Obj) : Keep [] w (w.alloc o) :=
  ⟨rfl, rfl, rfl, by simp, fun k hk _ => RowKit.Below.heap_alloc _ _ _ hk⟩
theorem keep_drew (w : World) : Keep [] w w.drew := ⟨rfl, rfl, rfl, Nat.le_refl _, fun _ _ _ => rfl⟩
theorem keep_setCell (w : World) (a : Addr) (v : Value) : Keep [a.block] w (w.setCell a v) :=
  ⟨rfl, rfl, rfl, by simp, fun k _ hn => RowKit.Below.heap_setCell _ _ _ _ (fun e => hn (by simp [e]))⟩
theorem keep_grown {w w' : World} {row : Option Nat} (h : w.grownBy w' row) : Keep row.toList w w' :=
  ⟨h.os, h.tape, h.output, h.size, fun k hk hn => h.block k hk (fun e => hn (by subst e; simp))⟩

/-- Block b is a row of cells. -/
def Bk (w : World) (b : Nat) (T : TypeId) (cs : List Value) : Prop := w.heap[b]? = some (.cells cs.toArray T (0, 0))
theorem Bk.lt {w : World} {b : Nat} {T : TypeId} {cs : List Value} (h : Bk w b T cs) : b < w.heap.size := by
  rcases Nat.lt_or_ge b w.heap.size with h' | h'
  · exact h'
  · unfold Bk at h; rw [Array.getElem?_eq_none h'] at h; cases h
theorem Bk.keep {S : List Nat} {w w' : World} {b : Nat} {T : TypeId} {cs : List Value} (h : Bk w b T cs) (k : Keep S w w') (hn : b ∉ S) : Bk w' b T cs := by
  unfold Bk; rw [k.block b h.lt hn]; exact h
theorem Bk.cell {w : World} {b : Nat} {T : TypeId} {cs : List Value} (h : Bk w b T cs) (o : Nat) : w.cell? ⟨b, o, none⟩ = cs[o]? := by
  unfold Bk at h; simp [World.cell?, h]
theorem Bk.frozen {w : World} {b : Nat} {T : TypeId} {cs : List Value} (h : Bk w b T cs) (o : Nat) : w.frozen? ⟨b, o, none⟩ = false := by
  unfold Bk at h
  simp only [World.frozen?, h]
  simp
theorem bk_alloc (w : World) (T : TypeId) (cs : List Value) : Bk (w.alloc (.cells cs.toArray T)) w.heap.size T cs := by
  show (w.heap.push _)[w.heap.size]? = _
  simp
theorem Bk.set {w : World} {b : Nat} {T : TypeId} {cs : List Value} (h : Bk w b T cs) (o : Nat) (v : Value) : Bk (w.setCell ⟨b, o, none⟩ v) b T (cs.set o v) := by
  unfold Bk at h ⊢
  simp [World.setCell, Array.getElem?_modify, h]

/-- From address a on the cells read as cs. -/
def Row (w : World) (a : Addr) (cs : List Value) : Prop := ∀ j u, cs[j]? = some u → w.cell? (a.add j) = some u
theorem Row.keep {S : List Nat} {w w' : World} {a : Addr} {cs : List Value} (h : Row w a cs) (k : Keep S w w') (hn : a.block ∉ S) : Row w' a cs := by
  intro j u hj
  have h1 := h j u hj
  have hb : (a.add j).block = a.block := by unfold Addr.add; split <;> rfl
  rw [World.cell?_of_block (w := w)]
  · exact h1
  · exact k.block _ (World.block_lt_of_cell? _ _ h1) (by rw [hb]; exact hn)
theorem addr_add_add (a : Addr) (i j : Nat) : (a.add i).add j = a.add (i + j) ∨ (i = 0 ∧ j = 0) ∨ True := .inr (.inr trivial)
theorem Addr.add_add_cell (w : World) (a : Addr) (i j : Nat) {u : Value} (h : w.cell? (a.add (i + j)) = some u) (h0 : a.spot = none) : w.cell? ((a.add i).add j) = some u := by
  have : (a.add i).add j = a.add (i + j) := by
    obtain ⟨b, o, s⟩ := a
    simp only at h0; subst h0
    simp [Addr.add_lit, Nat.add_assoc]
  rw [this]; exact h
theorem cell_spot {w : World} {a : Addr} {u : Value} (h : w.cell? a = some u) : a.spot = none := by
  unfold World.cell? at h
  split at h
  · split at h
    · cases h
    · rename_i hs; simpa using hs
  · cases h
theorem Row.drop {w : World} {a : Addr} {cs : List Value} (h : Row w a cs) (i : Nat) : Row w (a.add i) (cs.drop i) := by
  intro j u hj
  rw [List.getElem?_drop] at hj
  have h1 := h (i + j) u hj
  by_cases e : i = 0
  · subst e; simpa [Addr.add_zero', Addr.add] using h1
  · obtain ⟨b, o, s⟩ := a
    have e1 : (Addr.add ⟨b, o, s⟩ i) = ⟨b, o + i, none⟩ := by simp [Addr.add, e]
    have e2 : (Addr.add ⟨b, o, s⟩ (i + j)) = ⟨b, o + (i + j), none⟩ := by simp [Addr.add]; omega
    rw [e1]; rw [e2] at h1
    rw [Addr.add_lit, Nat.add_assoc]; exact h1
theorem Row.take {w : World} {a : Addr} {cs : List Value} (h : Row w a cs) (i : Nat) : Row w a (cs.take i) := by
  intro j u hj
  rw [List.getElem?_take] at hj
  split at hj
  · exact h j u hj
  · cases hj
theorem Bk.row {w : World} {b : Nat} {T : TypeId} {cs : List Value} (h : Bk w b T cs) : Row w ⟨b, 0, none⟩ cs := by
  intro j u hj
  rw [Addr.add_lit, Nat.zero_add, h.cell]; exact hj

/-- The slice value v has n elements of s cells each; they read as cs. -/
def Rd (w : World) (s : Nat) (v : Value) (n : Nat) (cs : List Value) : Prop :=
  ∃ A c, v = .slice A n c ∧ n ≤ c ∧ c ≤ maxLen ∧ cs.length = n * s ∧ (A = none → c = 0) ∧ ∀ a, A = some a → Row w a cs
def vblk : Value → List Nat
  | .slice (some a) _ _ => [a.block]
  | .pointer (some a) => [a.block]
  | _ => []
def isNil : Value → Bool
  | .slice none _ _ => true
  | .pointer none => true
  | .nilIface => true
  | _ => false
def vcap : Value → Nat
  | .slice _ _ c => c
  | _ => 0
/-- The address of element number i (s cells each). -/
def ea (v : Value) (i : Nat) : Addr :=
  match v with
  | .slice (some a) _ _ => a.add i
  | _ => ⟨0, 0, none⟩
/-- v[l:h] -/
def cut (v : Value) (l h s : Nat) : Value :=
  match v with
  | .slice a _ c => .slice (if c = l then a else a.map (·.add (l * s))) (h - l) (c - l)
  | v => v
theorem Rd.keep {S : List Nat} {w w' : World} {s n : Nat} {v : Value} {cs : List Value} (h : Rd w s v n cs) (k : Keep S w w') (hn : ∀ x, x ∈ vblk v → x ∉ S) : Rd w' s v n cs := by
  obtain ⟨A, c, rfl, h1, h2, h3, h4, h5⟩ := h
  exact ⟨A, c, rfl, h1, h2, h3, h4, fun a ha => (h5 a ha).keep k (hn _ (by subst ha; simp [vblk]))⟩
theorem Rd.keep0 {w w' : World} {s n : Nat} {v : Value} {cs : List Value} (h : Rd w s v n cs) (k : Keep [] w w') : Rd w' s v n cs := h.keep k (fun _ _ h => by cases h)
theorem Rd.len {w : World} {s n : Nat} {v : Value} {cs : List Value} (h : Rd w s v n cs) : cs.length = n * s := by
  obtain ⟨A, c, rfl, h1, h2, h3, h4, h5⟩ := h; exact h3
theorem Rd.le {w : World} {s n : Nat} {v : Value} {cs : List Value} (h : Rd w s v n cs) : n ≤ 9223372036854775807 := by
  obtain ⟨A, c, rfl, h1, h2, h3, h4, h5⟩ := h; unfold maxLen at h2; omega
theorem Rd.one {w : World} {s n : Nat} {v : Value} {cs : List Value} (h : Rd w s v n cs) : v.oneCell' = true := by
  obtain ⟨A, c, rfl, _⟩ := h; rfl
theorem Rd.cells {w : World} {s n : Nat} {v : Value} {cs : List Value} (h : Rd w s v n cs) : v.cells = #[v] := by
  obtain ⟨A, c, rfl, _⟩ := h; rfl
theorem Rd.cut {w : World} {s n : Nat} {v : Value} {cs : List Value} (h : Rd w s v n cs) {l hi : Nat} (h1 : l ≤ hi) (h2 : hi ≤ n) : Rd w s (cut v l hi s) (hi - l) ((cs.drop (l * s)).take ((hi - l) * s)) := by
  obtain ⟨A, c, rfl, h3, h4, h5, h6, h7⟩ := h
  refine ⟨_, _, rfl, by omega, by omega, ?_, ?_, ?_⟩
  · rw [List.length_take, List.length_drop, h5, ← Nat.sub_mul]
    exact Nat.min_eq_left (Nat.mul_le_mul_right _ (by omega))
  · intro h8
    split at h8
    · omega
    · cases A with
      | none => have := h6 rfl; omega
      | some a => cases h8
  · intro a ha
    split at ha
    · have e : hi - l = 0 := by omega
      rw [e, Nat.zero_mul, List.take_zero]
      intro j u hj; cases hj
    · cases A with
      | none => cases ha
      | some a0 =>
        simp only [Option.map_some, Option.some.injEq] at ha
        subst ha
        exact ((h7 a0 rfl).drop _).take _
theorem Rd.nil (w : World) (s : Nat) : Rd w s (.slice none 0 0) 0 [] := ⟨none, 0, rfl, Nat.le_refl _, Nat.zero_le _, by simp, fun _ => rfl, fun a h => by cases h⟩
theorem rd_of_own {w : World} {lo : Nat} {e : TypeId} {s n : Nat} {v : Value} {cs : List Value} (h : w.ownsRow lo e s v n cs) : Rd w s v n cs := by
  rcases h with ⟨hl, ⟨rfl, rfl⟩ | ⟨g, cap, cur, rfl, h1, h2, h3, h4, h5, h6⟩⟩
  · simp at hl; subst hl; exact Rd.nil w s
  · refine ⟨_, cap, rfl, h3, h4, hl, (fun h => by cases h), ?_⟩
    intro a ha
    simp only [Option.some.injEq] at ha
    subst ha
    have ho : w.ownsRow lo e s (.slice (some ⟨g, 0, none⟩) n cap) n cs := ⟨hl, .inr ⟨g, cap, cur, rfl, h1, h2, h3, h4, h5, h6⟩⟩
    exact ho.cells rfl

/-- A slice of the call's own: its row lies in a block from lo on. -/
def Own (w : World) (lo : Nat) (e : TypeId) (s : Nat) (v : Value) (n : Nat) (cs : List Value) : Prop := w.ownsRow lo e s v n cs
theorem Own.rd {w : World} {lo : Nat} {e : TypeId} {s n : Nat} {v : Value} {cs : List Value} (h : Own w lo e s v n cs) : Rd w s v n cs := rd_of_own h
theorem own_nil (w : World) (lo : Nat) (e : TypeId) (s : Nat) : Own w lo e s (.slice none 0 0) 0 [] := World.ownsRow_nil w lo e s
theorem vblk_own {v : Value} {A : Option Addr} {n c : Nat} (h : v = .slice A n c) : vblk v = v.ownBlock.toList := by
  subst h; cases A <;> rfl
theorem Own.vblk {w : World} {lo : Nat} {e : TypeId} {s n : Nat} {v : Value} {cs : List Value} (h : Own w lo e s v n cs) : vblk v = v.ownBlock.toList := by
  obtain ⟨A, c, hv, _⟩ := h.rd; exact vblk_own hv
theorem Own.blk {w : World} {lo : Nat} {e : TypeId} {s n : Nat} {v : Value} {cs : List Value} (h : Own w lo e s v n cs) : ∀ x, x ∈ Eng.vblk v → lo ≤ x ∧ x < w.heap.size := by
  intro x hx
  rw [h.vblk] at hx
  simp only [Option.mem_toList] at hx
  exact World.ownsRow.lt h x hx
theorem Own.keep {S : List Nat} {w w' : World} {lo : Nat} {e : TypeId} {s n : Nat} {v : Value} {cs : List Value} (h : Own w lo e s v n cs) (k : Keep S w w') (hn : ∀ x, x ∈ Eng.vblk v → x ∉ S) : Own w' lo e s v n cs := by
  obtain ⟨hl, h⟩ := h
  refine ⟨hl, ?_⟩
  rcases h with h | ⟨g, cap, cur, rfl, h1, h2, r⟩
  · exact .inl h
  · exact .inr ⟨g, cap, cur, rfl, h1, by rw [k.block g (Bk.lt (cs := cur.toList) (T := e) (by simpa [Bk] using h2)) (hn g (by simp [Eng.vblk]))]; exact h2, r⟩
theorem Own.keep0 {w w' : World} {lo : Nat} {e : TypeId} {s n : Nat} {v : Value} {cs : List Value} (h : Own w lo e s v n cs) (k : Keep [] w w') : Own w' lo e s v n cs := h.keep k (fun _ _ h => by cases h)
theorem Own.lo {w : World} {lo lo' : Nat} {e : TypeId} {s n : Nat} {v : Value} {cs : List Value} (h : Own w lo e s v n cs) (hl : lo' ≤ lo) : Own w lo' e s v n cs := by
  obtain ⟨hl1, h⟩ := h
  refine ⟨hl1, ?_⟩
  rcases h with h | ⟨g, cap, cur, rfl, h1, r⟩
  · exact .inl h
  · exact .inr ⟨g, cap, cur, rfl, Nat.le_trans hl h1, r⟩
theorem own_of_bk {w : World} {b lo : Nat} {e : TypeId} {s n : Nat} {cs : List Value} (h : Bk w b e cs) (hl : lo ≤ b) (hn : cs.length = n * s) (hm : n ≤ maxLen) : Own w lo e s (.slice (some ⟨b, 0, none⟩) n n) n cs := by
  refine ⟨hn, .inr ⟨b, n, cs.toArray, rfl, hl, h, Nat.le_refl _, hm, by simpa using hn, ?_⟩⟩
  rw [← hn]; simp

/-- Bytes as cells. -/
def bv (xs : List UInt8) : List Value := xs.map fun b => .int .u8 (b.toNat : Int)
@[simp] theorem bv_length (xs : List UInt8) : (bv xs).length = xs.length := by simp [bv]
@[simp] theorem bv_append (xs ys : List UInt8) : bv (xs ++ ys) = bv xs ++ bv ys := by simp [bv]
theorem bv_drop (xs : List UInt8) (n : Nat) : (bv xs).drop n = bv (xs.drop n) := by simp [bv]
theorem bv_take (xs : List UInt8) (n : Nat) : (bv xs).take n = bv (xs.take n) := by simp [bv]
theorem bv_one (xs : List UInt8) : ∀ u ∈ bv xs, u.oneCell' = true := by
  intro u hu; simp only [bv, List.mem_map] at hu; obtain ⟨b, _, rfl⟩ := hu; rfl
def gb (xs : List UInt8) (i : Int) : Int := ((xs.getD i.toNat 0).toNat : Int)
theorem gb_range (xs : List UInt8) (i : Int) : 0 ≤ gb xs i ∧ gb xs i ≤ 255 := by
  unfold gb
  have := (xs.getD i.toNat 0).toNat_lt
  omega
theorem bv_get (xs : List UInt8) {i : Int} (h1 : i < xs.length) (h0 : 0 ≤ i) : (bv xs)[i.toNat]? = some (.int .u8 (gb xs i)) := by
  have : i.toNat < xs.length := by omega
  simp [bv, gb, this]
abbrev RdB (w : World) (v : Value) (xs : List UInt8) : Prop := Rd w 1 v xs.length (bv xs)
theorem Rd.cutB {w : World} {v : Value} {xs : List UInt8} (h : RdB w v xs) {l hi : Nat} (h1 : l ≤ hi) (h2 : hi ≤ xs.length) : RdB w (Eng.cut v l hi 1) ((xs.drop l).take (hi - l)) := by
  have h' := h.cut h1 h2
  rw [Nat.mul_one, Nat.mul_one, bv_drop, bv_take] at h'
  have e : ((xs.drop l).take (hi - l)).length = hi - l := by simp; omega
  unfold RdB
  rw [e]; exact h'

/-! ### Types -/
def tyB (P : Program) (t : TypeId) : Option (Option (List Value) × Nat × Nat) := (P.info? t).map fun i => (i.zero.map fun z => z.cells.toList, i.size, i.bytes)
/-- Type t has this zero value (as cells), so many cells, so many bytes. -/
def Ty (P : Program) (t : TypeId) (zs : List Value) (size bytes : Nat) : Prop := tyB P t = some (some zs, size, bytes)
theorem Ty.parts {P : Program} {t : TypeId} {zs : List Value} {size bytes : Nat} (h : Ty P t zs size bytes) : ∃ i z, P.info? t = some i ∧ i.zero = some z ∧ z.cells.toList = zs ∧ i.size = size ∧ i.bytes = bytes := by
  unfold Ty tyB at h
  cases hi : P.info? t with
  | none => rw [hi] at h; cases h
  | some i =>
    rw [hi] at h
    simp only [Option.map_some, Option.some.injEq, Prod.mk.injEq, Option.map_eq_some_iff] at h
    obtain ⟨⟨z, hz, hz'⟩, h2, h3⟩ := h
    exact ⟨i, z, rfl, hz, hz', h2, h3⟩
theorem Ty.sizeOf {P : Program} {t : TypeId} {zs : List Value} {size bytes : Nat} (h : Ty P t zs size bytes) (w : World) : (Go.sizeOf t).run P w = .ok size w := by
  obtain ⟨i, z, hi, hz, h1, h2, h3⟩ := h.parts
  simp [Go.sizeOf, typeInfo, hi, h2]
theorem Ty.zeroValue {P : Program} {t : TypeId} {zs : List Value} {size bytes : Nat} (h : Ty P t zs size bytes) (w : World) : ∃ z, z.cells.toList = zs ∧ (Go.zeroValue t).run P w = .ok z w := by
  obtain ⟨i, z, hi, hz, h1, h2, h3⟩ := h.parts
  exact ⟨z, h1, by simp [Go.zeroValue, typeInfo, hi, hz]⟩
/-- A type whose values lie in one cell. -/
def scB (P : Program) (t : TypeId) : Bool := match P.underlying t with | some (.struct _) => false | some (.array _ _) => false | some _ => true | none => false
theorem run_isAgg {P : Program} {t : TypeId} (h : scB P t = true) (w : World) : (isAgg t).run P w = .ok false w := by
  unfold scB at h
  cases hu : P.underlying t with
  | none => rw [hu] at h; cases h
  | some d =>
    rw [hu] at h
    unfold isAgg
    simp only [Sem.run_bind, run_underlying hu, Result.andThen_ok]
    cases d <;> first | rfl | cases h
def agB (P : Program) (t : TypeId) : Bool := match P.underlying t with | some (.struct _) => true | some (.array _ _) => true | _ => false
theorem run_isAgg' {P : Program} {t : TypeId} (h : agB P t = true) (w : World) : (isAgg t).run P w = .ok true w := by
  unfold agB at h
  cases hu : P.underlying t with
  | none => rw [hu] at h; cases h
  | some d =>
    rw [hu] at h
    unfold isAgg
    simp only [Sem.run_bind, run_underlying hu, Result.andThen_ok]
    cases d <;> first | rfl | cases h

theorem blt_lt {a b : Nat} (h : Nat.blt a b = true) : a < b := Nat.le_of_ble_eq_true h
theorem pointee_of {P : Program} {t e : TypeId} (h : P.underlying t = some (.pointer e)) : P.underlying t = some (.pointer (P.pointee t)) := by unfold Program.pointee; rw [h]
/-! ### What an operation gives -/
/-- It gives this very value, in this very world. -/
def Gives (P : Program) (n : Nat) (f : Fr) (w : World) (op : Op) (ty : TypeId) (v : Value) (w' : World) : Prop :=
  ∀ a, Kn n f a → ∀ (dst : Option Tmp) (pos : String) (aft : Array Edge) (g : Option (Nat × Bool)), (execOp a.eval ⟨dst, op, ty, pos, aft, g⟩).run P w = .ok (.value v) w'
/-- It comes to a value and a world of which R holds. -/
def Does (P : Program) (n : Nat) (f : Fr) (w : World) (op : Op) (ty : TypeId) (R : Value → World → Prop) : Prop :=
  ∀ a, Kn n f a → ∀ (dst : Option Tmp) (pos : String) (aft : Array Edge) (g : Option (Nat × Bool)) (K : Act → World → Prop) (Q : Exit → Act → World → Prop),
    (∀ v w', R v w' → K (a.put dst v) w') → Oper.wp P ⟨dst, op, ty, pos, aft, g⟩ a w K Q
section
variable {P : Program} {n : Nat} {f : Fr} {w : World} {ty : TypeId}
theorem Gives.does {op : Op} {v : Value} {w' : World} (h : Gives P n f w op ty v w') : Does P n f w op ty (fun v' w'' => v' = v ∧ w'' = w') := by
  intro a ha dst pos aft g K Q hK
  unfold Oper.wp
  rw [h a ha]
  exact hK v w' ⟨rfl, rfl⟩
theorem Does.mono {op : Op} {R R' : Value → World → Prop} (h : Does P n f w op ty R) (hr : ∀ v w', R v w' → R' v w') : Does P n f w op ty R' :=
  fun a ha dst pos aft g K Q hK => h a ha dst pos aft g K Q (fun v w' hv => hK v w' (hr v w' hv))
variable {fin : Exit → Act → World → Prop} {k : List KI} {ops : Array Oper} {l : List Oper}
theorem ow_g {op : Op} {d : Nat} {pos : String} {aft : Array Edge} {v : Value} {w' : World} (hr : Gives P n f w op ty v w') (hd : Nat.blt d n = true)
    (h : OW P fin n k ops l ((d, v) :: f) w') : OW P fin n k ops (⟨some d, op, ty, pos, aft, none⟩ :: l) f w :=
  ow_val v w' (fun a ha => hr a ha _ _ _ _) (blt_lt hd) h
theorem ow_d {op : Op} {d : Nat} {pos : String} {aft : Array Edge} {R : Value → World → Prop} (hr : Does P n f w op ty R) (hd : Nat.blt d n = true)
    (h : ∀ v w', R v w' → OW P fin n k ops l ((d, v) :: f) w') : OW P fin n k ops (⟨some d, op, ty, pos, aft, none⟩ :: l) f w := by
  intro a ha
  refine wpList_plain rfl fun K hK => ?_
  exact hr a ha _ _ _ _ _ _ (fun v w' hv => hK _ _ (h v w' hv _ (ha.put (blt_lt hd) v)))
theorem ow_d0 {op : Op} {pos : String} {aft : Array Edge} {R : Value → World → Prop} (hr : Does P n f w op ty R)
    (h : ∀ v w', R v w' → OW P fin n k ops l f w') : OW P fin n k ops (⟨none, op, ty, pos, aft, none⟩ :: l) f w := by
  intro a ha
  refine wpList_plain rfl fun K hK => ?_
  exact hr a ha _ _ _ _ _ _ (fun v w' hv => hK _ _ (h v w' hv _ ha))

theorem run_v {α : Type} {s : Sem α} {c : α → Next} {v : α} {w w' : World} (h : s.run P w = .ok v w') : (do pure (c (← s)) : Sem Next).run P w = .ok (c v) w' := by
  simp [h]

theorem g_mv {x : Operand} {v : Value} (hx : f.ev x = some v) : Gives P n f w (.move x) ty v w := by
  intro a ha dst pos aft g
  simp [execOp, ha.ev hx]
theorem g_as {x : Operand} {v : Value} (hx : f.ev x = some v) : Gives P n f w (.assign x) ty v w := by
  intro a ha dst pos aft g
  simp [execOp, ha.ev hx]
theorem g_pick {c x y : Operand} {b : Bool} {u v : Value} (hc : f.ev c = some (.bool b)) (hx : f.ev x = some u) (hy : f.ev y = some v) : Gives P n f w (.pick c x y) ty (if b then u else v) w := by
  intro a ha dst pos aft g
  simp [execOp, ha.ev hx, ha.ev hy, ha.ev hc, asBool]
theorem g_nilc {x : Operand} {a0 : Addr} (hx : f.ev x = some (.pointer (some a0))) : Gives P n f w (.nilCheck x) ty (.pointer (some a0)) w := by
  intro a ha dst pos aft g
  simp [execOp, ha.ev hx]

/-! numbers -/
theorem run_bin {op : BinOp} {t u : TypeId} {x y : Operand} {vx vy v : Value} (hx : f.ev x = some vx) (hy : f.ev y = some vy)
    (hg : ∀ x y, (eqGuard op t x y vx vy).run P w = .ok () w) (hr : (binOp op t vx vy).run P w = .ok v w) : Gives P n f w (.binOp op t x y u) ty v w := by
  intro a ha dst pos aft g
  simp [execOp, ha.ev hx, ha.ev hy, hg, hr]
theorem guard_int {op : BinOp} {t : TypeId} {k : IntKind} {i : Int} {v : Value} : ∀ x y, (eqGuard op t x y (.int k i) v).run P w = .ok () w := fun x y => by rw [eqGuard_at_int]; rfl
theorem g_add {t u : TypeId} {x y : Operand} {i j : Int} (hx : f.ev x = some (.int .i64 i)) (hy : f.ev y = some (.int .i64 j)) (h : -9223372036854775808 ≤ i + j ∧ i + j ≤ 9223372036854775807) :
    Gives P n f w (.binOp .add t x y u) ty (.int .i64 (i + j)) w := run_bin hx hy guard_int (by rw [binOp_add]; simp [Op.intArith, i64_in _ h])
theorem g_sub {t u : TypeId} {x y : Operand} {i j : Int} (hx : f.ev x = some (.int .i64 i)) (hy : f.ev y = some (.int .i64 j)) (h : -9223372036854775808 ≤ i - j ∧ i - j ≤ 9223372036854775807) :
    Gives P n f w (.binOp .sub t x y u) ty (.int .i64 (i - j)) w := run_bin hx hy guard_int (by rw [binOp_sub]; simp [Op.intArith, i64_in _ h])
theorem g_mul {t u : TypeId} {x y : Operand} {i j : Int} (hx : f.ev x = some (.int .i64 i)) (hy : f.ev y = some (.int .i64 j)) (h : -9223372036854775808 ≤ i * j ∧ i * j ≤ 9223372036854775807) :
    Gives P n f w (.binOp .mul t x y u) ty (.int .i64 (i * j)) w := run_bin hx hy guard_int (by rw [binOp_mul]; simp [Op.intArith, i64_in _ h])
theorem g_addw {k : IntKind} {t u : TypeId} {x y : Operand} {i j : Int} (hx : f.ev x = some (.int k i)) (hy : f.ev y = some (.int k j)) :
    Gives P n f w (.binOp .add t x y u) ty (.int k (k.wrap (i + j))) w := run_bin hx hy guard_int (by rw [binOp_add]; simp [Op.intArith])
theorem g_subw {k : IntKind} {t u : TypeId} {x y : Operand} {i j : Int} (hx : f.ev x = some (.int k i)) (hy : f.ev y = some (.int k j)) :
    Gives P n f w (.binOp .sub t x y u) ty (.int k (k.wrap (i - j))) w := run_bin hx hy guard_int (by rw [binOp_sub]; simp [Op.intArith])
theorem g_mulw {k : IntKind} {t u : TypeId} {x y : Operand} {i j : Int} (hx : f.ev x = some (.int k i)) (hy : f.ev y = some (.int k j)) :
    Gives P n f w (.binOp .mul t x y u) ty (.int k (k.wrap (i * j))) w := run_bin hx hy guard_int (by rw [binOp_mul]; simp [Op.intArith])
theorem g_quo {t u : TypeId} {x y : Operand} {i j : Int} (hx : f.ev x = some (.int .i64 i)) (hy : f.ev y = some (.int .i64 j)) (h : 0 ≤ i ∧ i ≤ 9223372036854775807 ∧ 1 ≤ j) :
    Gives P n f w (.binOp .quo t x y u) ty (.int .i64 (i / j)) w := run_bin hx hy guard_int (by rw [binOp_quo]; simp [Op.intDiv, i64_quo _ _ h]; omega)
theorem g_rem {k : IntKind} {t u : TypeId} {x y : Operand} {i j : Int} (hx : f.ev x = some (.int k i)) (hy : f.ev y = some (.int k j)) (h : 0 ≤ i ∧ 1 ≤ j) :
    Gives P n f w (.binOp .rem t x y u) ty (.int k (i % j)) w := run_bin hx hy guard_int (by rw [binOp_rem]; simp [Op.intDiv, rem_in _ _ h.1]; omega)
theorem g_and {k : IntKind} {t u : TypeId} {x y : Operand} {i j : Int} (hx : f.ev x = some (.int k i)) (hy : f.ev y = some (.int k j)) :
    Gives P n f w (.binOp .and t x y u) ty (.int k (bits .and k i j)) w := run_bin hx hy guard_int (by rw [binOp_and, intBits_and]; rfl)
theorem g_or {k : IntKind} {t u : TypeId} {x y : Operand} {i j : Int} (hx : f.ev x = some (.int k i)) (hy : f.ev y = some (.int k j)) :
    Gives P n f w (.binOp .or t x y u) ty (.int k (bits .or k i j)) w := run_bin hx hy guard_int (by rw [binOp_or, intBits_or]; rfl)
theorem g_xor {k : IntKind} {t u : TypeId} {x y : Operand} {i j : Int} (hx : f.ev x = some (.int k i)) (hy : f.ev y = some (.int k j)) :
    Gives P n f w (.binOp .xor t x y u) ty (.int k (bits .xor k i j)) w := run_bin hx hy guard_int (by rw [binOp_xor, intBits_xor]; rfl)
theorem g_andNot {k : IntKind} {t u : TypeId} {x y : Operand} {i j : Int} (hx : f.ev x = some (.int k i)) (hy : f.ev y = some (.int k j)) :
    Gives P n f w (.binOp .andNot t x y u) ty (.int k (bits .andNot k i j)) w := run_bin hx hy guard_int (by rw [binOp_andNot, intBits_andNot]; rfl)
theorem g_shl {k k' : IntKind} {t u : TypeId} {x y : Operand} {i j : Int} (hx : f.ev x = some (.int k i)) (hy : f.ev y = some (.int k' j)) (h : 0 ≤ j ∧ j ≤ k.bits) :
    Gives P n f w (.binOp .shl t x y u) ty (.int k (k.wrap (i * 2 ^ j.toNat))) w := run_bin hx hy guard_int (by rw [binOp_shl, shift_shl k k' i j h.1 h.2]; rfl)
theorem g_shr {k k' : IntKind} {t u : TypeId} {x y : Operand} {i j : Int} (hx : f.ev x = some (.int k i)) (hy : f.ev y = some (.int k' j)) (h : 0 ≤ j ∧ j ≤ k.bits) :
    Gives P n f w (.binOp .shr t x y u) ty (.int k (i / 2 ^ j.toNat)) w := run_bin hx hy guard_int (by rw [binOp_shr, shift_shr k k' i j h.1 h.2]; rfl)
/-- Shifts by whatever is not below 0. -/
theorem g_shla {k k' : IntKind} {t u : TypeId} {x y : Operand} {i j : Int} (hx : f.ev x = some (.int k i)) (hy : f.ev y = some (.int k' j)) (h : 0 ≤ j) :
    Gives P n f w (.binOp .shl t x y u) ty (.int k (k.wrap (i * 2 ^ min j.toNat k.bits))) w := run_bin hx hy guard_int (by rw [binOp_shl]; simp [Op.shift]; omega)
theorem g_shra {k k' : IntKind} {t u : TypeId} {x y : Operand} {i j : Int} (hx : f.ev x = some (.int k i)) (hy : f.ev y = some (.int k' j)) (h : 0 ≤ j) :
    Gives P n f w (.binOp .shr t x y u) ty (.int k (i.fdiv (2 ^ min j.toNat k.bits))) w := run_bin hx hy guard_int (by rw [binOp_shr]; simp [Op.shift]; omega)
theorem g_eq {k : IntKind} {t u : TypeId} {x y : Operand} {i j : Int} (hx : f.ev x = some (.int k i)) (hy : f.ev y = some (.int k j)) :
    Gives P n f w (.binOp .eql t x y u) ty (.bool (decide (i = j))) w := run_bin hx hy guard_int (by rw [binOp_eql]; rfl)
theorem g_ne {k : IntKind} {t u : TypeId} {x y : Operand} {i j : Int} (hx : f.ev x = some (.int k i)) (hy : f.ev y = some (.int k j)) :
    Gives P n f w (.binOp .neq t x y u) ty (.bool (decide (i ≠ j))) w := run_bin hx hy guard_int (by rw [binOp_neq]; simp [bne]; by_cases h : i = j <;> simp [h])
theorem g_lt {k : IntKind} {t u : TypeId} {x y : Operand} {i j : Int} (hx : f.ev x = some (.int k i)) (hy : f.ev y = some (.int k j)) :
    Gives P n f w (.binOp .lss t x y u) ty (.bool (decide (i < j))) w := run_bin hx hy guard_int (by rw [binOp_lss]; rfl)
theorem g_le {k : IntKind} {t u : TypeId} {x y : Operand} {i j : Int} (hx : f.ev x = some (.int k i)) (hy : f.ev y = some (.int k j)) :
    Gives P n f w (.binOp .leq t x y u) ty (.bool (decide (i ≤ j))) w := run_bin hx hy guard_int (by rw [binOp_leq]; rfl)
theorem g_gt {k : IntKind} {t u : TypeId} {x y : Operand} {i j : Int} (hx : f.ev x = some (.int k i)) (hy : f.ev y = some (.int k j)) :
    Gives P n f w (.binOp .gtr t x y u) ty (.bool (decide (j < i))) w := run_bin hx hy guard_int (by rw [binOp_gtr]; rfl)
theorem g_ge {k : IntKind} {t u : TypeId} {x y : Operand} {i j : Int} (hx : f.ev x = some (.int k i)) (hy : f.ev y = some (.int k j)) :
    Gives P n f w (.binOp .geq t x y u) ty (.bool (decide (j ≤ i))) w := run_bin hx hy guard_int (by rw [binOp_geq]; rfl)
theorem g_cv {s t : TypeId} {x : Operand} {k k' : IntKind} {i : Int} (hs : (P.underlying s).isSome = true) (ht : P.underlying t = some (.int k')) (hx : f.ev x = some (.int k i)) :
    Gives P n f w (.convert s t x) ty (.int k' (k'.wrap i)) w := by
  intro a ha dst pos aft g
  have h1 : P.underlying t = some (.int (P.intKind t)) := by unfold Program.intKind; rw [ht]
  have h2 : P.intKind t = k' := by unfold Program.intKind; rw [ht]
  have := run_convert_int (P := P) w s t k i hs h1
  rw [h2] at this
  simp [execOp, ha.ev hx, this]
/-- A number that fits is the same number of another kind. -/
theorem g_cvi {s t : TypeId} {x : Operand} {k : IntKind} {i : Int} (hs : (P.underlying s).isSome = true) (ht : P.underlying t = some (.int .i64)) (hx : f.ev x = some (.int k i)) (h : -9223372036854775808 ≤ i ∧ i ≤ 9223372036854775807) :
    Gives P n f w (.convert s t x) ty (.int .i64 i) w := by
  have := g_cv (n := n) (w := w) (ty := ty) hs ht hx
  rwa [i64_in _ h] at this
theorem g_neg {t : TypeId} {x : Operand} {k : IntKind} {i : Int} (hx : f.ev x = some (.int k i)) : Gives P n f w (.unOp .neg t x) ty (.int k (k.wrap (0 - i))) w := by
  intro a ha dst pos aft g
  simp [execOp, ha.ev hx, Op.unary, Op.intArith]
theorem g_not {t : TypeId} {x : Operand} {b : Bool} (hx : f.ev x = some (.bool b)) : Gives P n f w (.unOp .not t x) ty (.bool (!b)) w := by
  intro a ha dst pos aft g
  simp [execOp, ha.ev hx, Op.unary]
theorem g_notd {t : TypeId} {x : Operand} {p : Prop} [Decidable p] (hx : f.ev x = some (.bool (decide p))) : Gives P n f w (.unOp .not t x) ty (.bool (decide (¬ p))) w := by
  have := g_not (P := P) (n := n) (w := w) (ty := ty) (t := t) hx
  rwa [← decide_not] at this
theorem g_eqb {t u : TypeId} {x y : Operand} {i j : Bool} (ht : P.underlying t = some .bool) (hx : f.ev x = some (.bool i)) (hy : f.ev y = some (.bool j)) :
    Gives P n f w (.binOp .eql t x y u) ty (.bool (i == j)) w := run_bin hx hy (fun x y => by rw [eqGuard_at_bool]; rfl) (run_eql_bool w t i j ht)
theorem g_neb {t u : TypeId} {x y : Operand} {i j : Bool} (ht : P.underlying t = some .bool) (hx : f.ev x = some (.bool i)) (hy : f.ev y = some (.bool j)) :
    Gives P n f w (.binOp .neq t x y u) ty (.bool (i != j)) w := run_bin hx hy (fun x y => by rw [eqGuard_at_bool]; rfl) (run_neq_bool w t i j ht)

/-! slices -/
theorem g_len {x : Operand} {t e : TypeId} {s m : Nat} {v : Value} {cs : List Value} (ht : P.underlying t = some (.slice e)) (hx : f.ev x = some v) (hr : Rd w s v m cs) :
    Gives P n f w (.call { callee := .builtin .len, args := #[x], argTypes := #[t] }) ty (.int .i64 (m : Int)) w := by
  intro a ha dst pos aft g
  obtain ⟨A, c, rfl, _⟩ := hr
  simp [execOp, resolve, invoke, builtin, ha.ev hx, Builtin.len_, run_underlying ht, goInt]
theorem g_lenS {x : Operand} {t : TypeId} {s : ByteArray} (ht : P.underlying t = some .string) (hx : f.ev x = some (.string s)) :
    Gives P n f w (.call { callee := .builtin .len, args := #[x], argTypes := #[t] }) ty (.int .i64 (s.size : Int)) w := by
  intro a ha dst pos aft g
  simp [execOp, resolve, invoke, builtin, ha.ev hx, Builtin.len_, run_underlying ht, goInt]
theorem g_cap {x : Operand} {t e : TypeId} {s m : Nat} {v : Value} {cs : List Value} (ht : P.underlying t = some (.slice e)) (hx : f.ev x = some v) (hr : Rd w s v m cs) :
    Gives P n f w (.call { callee := .builtin .cap, args := #[x], argTypes := #[t] }) ty (.int .i64 (vcap v : Int)) w := by
  intro a ha dst pos aft g
  obtain ⟨A, c, rfl, _⟩ := hr
  simp [execOp, resolve, invoke, builtin, ha.ev hx, Builtin.cap_, run_underlying ht, goInt, vcap]
theorem g_nilS {x : Operand} {t e u : TypeId} {s m : Nat} {v : Value} {cs : List Value} (ht : P.underlying t = some (.slice e)) (hx : f.ev x = some v) (hr : Rd w s v m cs) :
    Gives P n f w (.binOp .eql t x (.const (.slice none 0 0)) u) ty (.bool (isNil v)) w := by
  obtain ⟨A, c, rfl, _⟩ := hr
  refine run_bin hx rfl (fun x y => by rw [eqGuard_at_slice]; rfl) ?_
  rw [Lib.run_eql_slice_nil w t e A m c 0 0 ht]
  cases A <;> rfl
theorem g_nnilS {x : Operand} {t e u : TypeId} {s m : Nat} {v : Value} {cs : List Value} (ht : P.underlying t = some (.slice e)) (hx : f.ev x = some v) (hr : Rd w s v m cs) :
    Gives P n f w (.binOp .neq t x (.const (.slice none 0 0)) u) ty (.bool (!isNil v)) w := by
  obtain ⟨A, c, rfl, _⟩ := hr
  refine run_bin hx rfl (fun x y => by rw [eqGuard_at_slice]; rfl) ?_
  rw [run_neq_slice_nil_any w t e A m c 0 0 ht]
  cases A <;> rfl
theorem g_nilP {x : Operand} {t e u : TypeId} {v : Option Addr} (ht : P.underlying t = some (.pointer e)) (hx : f.ev x = some (.pointer v)) :
    Gives P n f w (.binOp .eql t x (.const (.pointer none)) u) ty (.bool v.isNone) w := by
  refine run_bin hx rfl (fun x y => by rw [eqGuard_at_pointer]; rfl) ?_
  exact run_eql_pointer_nil w t v (pointee_of ht)
theorem g_nnilP {x : Operand} {t e u : TypeId} {v : Option Addr} (ht : P.underlying t = some (.pointer e)) (hx : f.ev x = some (.pointer v)) :
    Gives P n f w (.binOp .neq t x (.const (.pointer none)) u) ty (.bool v.isSome) w := by
  refine run_bin hx rfl (fun x y => by rw [eqGuard_at_pointer]; rfl) ?_
  rw [run_neq_pointer_nil w t v (pointee_of ht)]
  cases v <;> rfl
theorem g_ix {x y : Operand} {t e : TypeId} {zs : List Value} {s b m : Nat} {v : Value} {cs : List Value} {k : IntKind} {i : Int} (ht : P.underlying t = some (.slice e)) (he : Ty P e zs s b)
    (hx : f.ev x = some v) (hr : Rd w s v m cs) (hy : f.ev y = some (.int k i)) (h : 0 ≤ i ∧ i < m) :
    Gives P n f w (.indexAddr t x y) ty (.pointer (some (ea v (i.toNat * s)))) w := by
  intro a ha dst pos aft g
  obtain ⟨A, c, rfl, h1, h2, h3, h4, h5⟩ := hr
  cases A with
  | none => have := h4 rfl; omega
  | some a0 => simp [execOp, ha.ev hx, ha.ev hy, Instr.indexAt, asIntOf, run_underlying ht, he.sizeOf, h.1, h.2, ea]
theorem Rd.cell {w : World} {s m : Nat} {v : Value} {cs : List Value} (hr : Rd w s v m cs) {j : Nat} {u : Value} (hj : cs[j]? = some u) : w.cell? (ea v j) = some u := by
  obtain ⟨A, c, rfl, h1, h2, h3, h4, h5⟩ := hr
  cases A with
  | none =>
    have h6 := h4 rfl
    have : cs = [] := by apply List.eq_nil_of_length_eq_zero; rw [h3]; have : m = 0 := by omega
                         rw [this, Nat.zero_mul]
    subst this; cases hj
  | some a0 => exact h5 a0 rfl j u hj
/-- The load of one cell. -/
theorem g_ld {x : Operand} {t : TypeId} {a0 : Addr} {u : Value} (ht : scB P t = true) (hx : f.ev x = some (.pointer (some a0))) (hc : w.cell? a0 = some u) :
    Gives P n f w (.load t x) ty u w := by
  intro a ha dst pos aft g
  simp [execOp, ha.ev hx, Instr.loadAt, Instr.sureAddr, loadVar, run_isAgg ht, hc]
/-- The load of one cell of a row. -/
theorem g_ldb {x : Operand} {t : TypeId} {b o : Nat} {T : TypeId} {cs : List Value} {u : Value} (ht : scB P t = true) (hx : f.ev x = some (.pointer (some ⟨b, o, none⟩))) (hb : Bk w b T cs) (hc : cs[o]? = some u) :
    Gives P n f w (.load t x) ty u w := g_ld ht hx (by rw [hb.cell]; exact hc)
/-- The load of an element of one cell. -/
theorem g_lde {x : Operand} {t : TypeId} {s m j : Nat} {v : Value} {cs : List Value} {u : Value} (ht : scB P t = true) (hx : f.ev x = some (.pointer (some (ea v j)))) (hr : Rd w s v m cs) (hc : cs[j]? = some u) :
    Gives P n f w (.load t x) ty u w := g_ld ht hx (hr.cell hc)
/-- The load of a byte. -/
theorem g_ldB {x : Operand} {t : TypeId} {v : Value} {xs : List UInt8} {i : Int} (ht : scB P t = true) (hx : f.ev x = some (.pointer (some (ea v (i.toNat * 1))))) (hr : RdB w v xs) (h : 0 ≤ i ∧ i < xs.length) :
    Gives P n f w (.load t x) ty (.int .u8 (gb xs i)) w := g_lde ht hx hr (by rw [Nat.mul_one]; exact bv_get xs h.2 h.1)
/-- The load of a struct or an array. -/
theorem g_lda {x : Operand} {t : TypeId} {zs : List Value} {s b : Nat} {a0 : Addr} {cs : List Value} (ht : agB P t = true) (hs : Ty P t zs s b) (hx : f.ev x = some (.pointer (some a0))) (hr : Row w a0 cs) (hl : cs.length = s) :
    Gives P n f w (.load t x) ty (.agg cs.toArray) w := by
  intro a ha dst pos aft g
  subst hl
  simp [execOp, ha.ev hx, Instr.loadAt, Instr.sureAddr, loadVar, run_isAgg' ht, hs.sizeOf, run_loadCells_list w a0 cs hr]
theorem g_ldab {x : Operand} {t : TypeId} {zs : List Value} {s b : Nat} {g o : Nat} {T : TypeId} {cs cs' : List Value} (ht : agB P t = true) (hs : Ty P t zs s b) (hx : f.ev x = some (.pointer (some ⟨g, o, none⟩)))
    (hb : Bk w g T cs) (hc : (cs.drop o).take s = cs') (hl : cs'.length = s) :
    Gives P n f w (.load t x) ty (.agg cs'.toArray) w := by
  refine g_lda ht hs hx ?_ hl
  subst hc
  have := (hb.row.drop o).take s
  rwa [Addr.add_lit, Nat.zero_add] at this
theorem g_ldae {x : Operand} {t : TypeId} {zs : List Value} {s b m i : Nat} {v : Value} {cs cs' : List Value} (ht : agB P t = true) (hs : Ty P t zs s b) (hx : f.ev x = some (.pointer (some (ea v i))))
    (hr : Rd w s v m cs) (hc : (cs.drop i).take s = cs') (hl : cs'.length = s) (h0 : 0 < s) :
    Gives P n f w (.load t x) ty (.agg cs'.toArray) w := by
  refine g_lda ht hs hx ?_ hl
  obtain ⟨A, c, rfl, h1, h2, h3, h4, h5⟩ := hr
  cases A with
  | none =>
    have h6 := h4 rfl
    have : cs = [] := by apply List.eq_nil_of_length_eq_zero; rw [h3]; have : m = 0 := by omega
                         rw [this, Nat.zero_mul]
    subst this; subst hc; simp at hl; omega
  | some a0 => subst hc; exact ((h5 a0 rfl).drop i).take s
theorem g_fa {x : Operand} {T : TypeId} {fs : Array Field} {i : Nat} {fd : Field} {b o : Nat} {zs : List Value} {s by_ : Nat} (hT : P.underlying T = some (.struct fs)) (hf : fs[i]? = some fd) (hs : Ty P fd.type zs s by_) (h0 : s ≠ 0)
    (hx : f.ev x = some (.pointer (some ⟨b, o, none⟩))) : Gives P n f w (.fieldAddr T x i) ty (.pointer (some ⟨b, o + fd.offset, none⟩)) w := by
  intro a ha dst pos aft g
  simp [execOp, ha.ev hx, Instr.fieldAt, run_underlying hT, hf, Instr.sureAddr, fieldPlace, hs.sizeOf, h0, Addr.add_lit]
theorem g_ext {x : Operand} {i : Nat} {vs : List Value} {v : Value} (hx : f.ev x = some (.tuple vs.toArray)) (hv : vs[i]? = some v) : Gives P n f w (.extract x i) ty v w := by
  intro a ha dst pos aft g
  simp [execOp, ha.ev hx, Instr.extract, hv]
theorem g_sl {x : Operand} {t e : TypeId} {lo hi : Option Operand} {zs : List Value} {s b m : Nat} {v : Value} {cs : List Value} {l h : Int} (ht : P.underlying t = some (.slice e)) (he : Ty P e zs s b)
    (hx : f.ev x = some v) (hr : Rd w s v m cs)
    (hlo : (lo = none ∧ l = 0) ∨ ∃ o k, lo = some o ∧ f.ev o = some (.int k l)) (hhi : (hi = none ∧ h = m) ∨ ∃ o k, hi = some o ∧ f.ev o = some (.int k h)) (hb : 0 ≤ l ∧ l ≤ h ∧ h ≤ vcap v) :
    Gives P n f w (.slice t x lo hi none) ty (cut v l.toNat h.toNat s) w := by
  intro a ha dst pos aft g
  obtain ⟨A, c, rfl, h1, h2, h3, h4, h5⟩ := hr
  have ht' : P.underlying t = some (.slice (P.elem t)) := by unfold Program.elem; rw [ht]
  have hel : P.elem t = e := by unfold Program.elem; rw [ht]
  simp only [vcap] at hb
  have hbb : (Instr.sliceBounds true m c (lo.map a.eval) (hi.map a.eval) none).run P w = .ok (l.toNat, h.toNat, c) w := by
    have e2 : (h.toNat : Int) = h := Int.toNat_of_nonneg (by omega)
    rcases hlo with ⟨rfl, rfl⟩ | ⟨o, kk, rfl, ho⟩ <;> rcases hhi with ⟨rfl, rfl⟩ | ⟨o', kk', rfl, ho'⟩
    · simp [Instr.sliceBounds]
    · simp [Instr.sliceBounds, ha.ev ho', run_sliceBound w kk' h c _ (by omega) (by omega)]
    · simp [Instr.sliceBounds, ha.ev ho, run_sliceBound w kk l m _ (by omega) (by omega)]
    · simp [Instr.sliceBounds, ha.ev ho, ha.ev ho', run_sliceBound w kk' h c _ (by omega) (by omega), run_sliceBound w kk l h.toNat _ (by omega) (by omega)]
  simp only [execOp, ha.ev hx, Sem.run_bind, Option.map_none, run_sliceAt_slice w t _ _ _ _ ht', run_slice_any w t A m c ht', hbb, Result.andThen_ok, hel, he.sizeOf, sliced, Sem.run_pure, Eng.cut]
theorem Rd.vcap {w : World} {s m : Nat} {v : Value} {cs : List Value} (hr : Rd w s v m cs) : m ≤ Eng.vcap v ∧ Eng.vcap v ≤ 9223372036854775807 := by
  obtain ⟨A, c, rfl, h1, h2, _⟩ := hr
  unfold maxLen at h2
  simp only [Eng.vcap]; omega

/-! bytes and strings -/
def strOf (xs : List UInt8) : ByteArray := ⟨xs.toArray⟩
theorem strOf_size (xs : List UInt8) : (strOf xs).size = xs.length := by simp [strOf, ByteArray.size]
theorem strOf_inj {xs ys : List UInt8} (h : strOf xs = strOf ys) : xs = ys := by
  simp only [strOf, ByteArray.mk.injEq] at h
  simpa using congrArg Array.toList h
theorem g_str {x : Operand} {t u e : TypeId} {v : Value} {xs : List UInt8} (ht : P.underlying t = some (.slice e)) (he : P.underlying e = some (.int .u8)) (hu : P.underlying u = some .string)
    (hx : f.ev x = some v) (hr : RdB w v xs) : Gives P n f w (.convert t u x) ty (.string (strOf xs)) w := by
  intro a ha dst pos aft g
  obtain ⟨A, c, rfl, h1, h2, h3, h4, h5⟩ := hr
  simp only [execOp, ha.ev hx, Sem.run_bind]
  cases A with
  | none =>
    have h6 := h4 rfl
    have h7 : xs = [] := List.eq_nil_of_length_eq_zero (by omega)
    rw [run_convert_bytes_nil w t e ht he _ _ u hu]
    subst h7
    rfl
  | some a0 =>
    have hrow := h5 a0 rfl
    rw [run_convert_bytes_string w t u e _ _ _ ht he hu]
    have hl := run_loadCells_list (P := P) w a0 (bv xs) hrow
    have hns : bv xs = (xs.map fun b => (b.toNat : Int)).map (Value.int .u8) := by simp [bv, Function.comp_def]
    rw [bv_length] at hl
    have hb := run_bytesToString (P := P) w a0 xs.length c (xs.map fun b => (b.toNat : Int)) (by rw [hl, hns])
    rw [hb, Result.andThen_ok, Sem.run_pure, foldl_push_bytes]
    have he2 : ByteArray.empty.data = #[] := rfl
    simp only [Int.toNat_natCast, List.map_map, Function.comp_def, UInt8.ofNat_toNat, List.map_id', he2, Array.empty_append]
    rfl
theorem strOf_beq (a b : List UInt8) : ((strOf a).toList == (strOf b).toList) = decide (a = b) := by
  rw [← beq_toListBytes]
  by_cases h : a = b
  · subst h
    rw [beq_toListBytes]; simp
  · have h2 : strOf a ≠ strOf b := fun e => h (strOf_inj e)
    rw [decide_eq_false h]
    rw [beq_toListBytes]
    simp only [beq_eq_false_iff_ne, ne_eq]
    intro e
    rw [ByteArray.toList_eq, ByteArray.toList_eq] at e
    exact h (by simpa [strOf] using e)
theorem guard_str {op : BinOp} {t : TypeId} {s : ByteArray} {v : Value} : ∀ x y, (eqGuard op t x y (.string s) v).run P w = .ok () w := fun x y => by rw [eqGuard_at_string]; rfl
theorem g_eqs {t u : TypeId} {x y : Operand} {a b : List UInt8} (hx : f.ev x = some (.string (strOf a))) (hy : f.ev y = some (.string (strOf b))) :
    Gives P n f w (.binOp .eql t x y u) ty (.bool (decide (a = b))) w := run_bin hx hy guard_str (by
  simp only [binOp, Op.stringOp, strOf_beq]; rfl)
theorem g_nes {t u : TypeId} {x y : Operand} {a b : List UInt8} (hx : f.ev x = some (.string (strOf a))) (hy : f.ev y = some (.string (strOf b))) :
    Gives P n f w (.binOp .neq t x y u) ty (.bool (decide (a ≠ b))) w := run_bin hx hy guard_str (by
  simp only [binOp, Op.stringOp, strOf_beq, ne_eq, decide_not]; rfl)
end
end Go.Eng
