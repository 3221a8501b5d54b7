/- Contracts and laws, part 6 of 7: what each function of the program and of the reference computes, shown once. -/
import Derived.Test.YtonchmcppekldaaQbe
set_option maxRecDepth 100000
set_option maxHeartbeats 4000000
set_option linter.unusedVariables false
set_option linter.unusedSimpArgs false
namespace Go.Eng
open Go Go.Byt
structure P15 where
  i : Value
  e : Value
  s : Value
  n : Value
  h : Value
  g : Value
  gg : Value
  e2 : Value
  s2 : Value
  n2 : Value
  h2 : Value
  g2 : Value
  y1 : Value
  y2 : Value
  y3 : Value
def P15.cells (u : P15) (x : Pr) : List Value := [.int .i64 x.kind, u.i, u.e, u.s, u.n, .int .i64 x.pk.leaf.src, u.h, u.g, u.gg, u.e2, u.s2, u.n2, .int .i64 x.lf.src, u.h2, u.g2, .int .i64 x.ix, u.y1, u.y2, u.y3]
def P15.blk (u : P15) : List Nat := vblk u.i ++ (vblk u.e ++ (vblk u.s ++ (vblk u.n ++ (vblk u.h ++ (vblk u.g ++ (vblk u.gg ++ (vblk u.e2 ++ (vblk u.s2 ++ (vblk u.n2 ++ (vblk u.h2 ++ (vblk u.g2 ++ (vblk u.y1 ++ (vblk u.y2 ++ (vblk u.y3))))))))))))))
structure PrRd (w : World) (u : P15) (x : Pr) : Prop where
  i : RdB w u.i x.pk.init
  e : RdB w u.e x.pk.leaf.enc
  s : RdB w u.s x.pk.leaf.sig
  n : RdB w u.n x.pk.leaf.name
  h : RdB w u.h x.pk.leaf.hash
  g : RdB w u.g x.pk.leaf.sg
  gg : RdB w u.gg x.pk.sg
  e2 : RdB w u.e2 x.lf.enc
  s2 : RdB w u.s2 x.lf.sig
  n2 : RdB w u.n2 x.lf.name
  h2 : RdB w u.h2 x.lf.hash
  g2 : RdB w u.g2 x.lf.sg
  y1 : RdB w u.y1 x.psk
  y2 : RdB w u.y2 x.nonce
  y3 : RdB w u.y3 x.enc
structure PrLen (x : Pr) : Prop where
  i : x.pk.init.length ≤ 140737488351232
  e : x.pk.leaf.enc.length ≤ 140737488351232
  s : x.pk.leaf.sig.length ≤ 140737488351232
  n : x.pk.leaf.name.length ≤ 140737488351232
  h : x.pk.leaf.hash.length ≤ 140737488351232
  g : x.pk.leaf.sg.length ≤ 140737488351232
  gg : x.pk.sg.length ≤ 140737488351232
  e2 : x.lf.enc.length ≤ 140737488351232
  s2 : x.lf.sig.length ≤ 140737488351232
  n2 : x.lf.name.length ≤ 140737488351232
  h2 : x.lf.hash.length ≤ 140737488351232
  g2 : x.lf.sg.length ≤ 140737488351232
  y1 : x.psk.length ≤ 140737488351232
  y2 : x.nonce.length ≤ 140737488351232
  y3 : x.enc.length ≤ 140737488351232
theorem PrRd.keep {S : List Nat} {w w' : World} {u : P15} {x : Pr} (h : PrRd w u x) (k : Keep S w w') (hn : ∀ y, y ∈ u.blk → y ∉ S) : PrRd w' u x := by
 unfold P15.blk at hn
 simp only [List.mem_append] at hn
 exact ⟨h.i.keep k (fun y hy => hn y (.inl hy)), h.e.keep k (fun y hy => hn y (.inr (.inl hy))), h.s.keep k (fun y hy => hn y (.inr (.inr (.inl hy)))), h.n.keep k (fun y hy => hn y (.inr (.inr (.inr (.inl hy))))), h.h.keep k (fun y hy => hn y (.inr (.inr (.inr (.inr (.inl hy)))))), h.g.keep k (fun y hy => hn y (.inr (.inr (.inr (.inr (.inr (.inl hy))))))), h.gg.keep k (fun y hy => hn y (.inr (.inr (.inr (.inr (.inr (.inr (.inl hy)))))))), h.e2.keep k (fun y hy => hn y (.inr (.inr (.inr (.inr (.inr (.inr (.inr (.inl hy))))))))), h.s2.keep k (fun y hy => hn y (.inr (.inr (.inr (.inr (.inr (.inr (.inr (.inr (.inl hy)))))))))), h.n2.keep k (fun y hy => hn y (.inr (.inr (.inr (.inr (.inr (.inr (.inr (.inr (.inr (.inl hy))))))))))), h.h2.keep k (fun y hy => hn y (.inr (.inr (.inr (.inr (.inr (.inr (.inr (.inr (.inr (.inr (.inl hy)))))))))))), h.g2.keep k (fun y hy => hn y (.inr (.inr (.inr (.inr (.inr (.inr (.inr (.inr (.inr (.inr (.inr (.inl hy))))))))))))), h.y1.keep k (fun y hy => hn y (.inr (.inr (.inr (.inr (.inr (.inr (.inr (.inr (.inr (.inr (.inr (.inr (.inl hy)))))))))))))), h.y2.keep k (fun y hy => hn y (.inr (.inr (.inr (.inr (.inr (.inr (.inr (.inr (.inr (.inr (.inr (.inr (.inr (.inl hy))))))))))))))), h.y3.keep k (fun y hy => hn y (.inr (.inr (.inr (.inr (.inr (.inr (.inr (.inr (.inr (.inr (.inr (.inr (.inr (.inr hy)))))))))))))))⟩
theorem PrRd.oC {w w' : World} {u : P15} {x : Pr} (h : PrRd w u x) (k : Keep [] w w') : PrRd w' u x := h.keep k (fun _ _ h => by cases h)
theorem PrRd.cells_one {w : World} {u : P15} {x : Pr} (h : PrRd w u x) : ∀ c ∈ u.cells x, c.oneCell' = true := by
 unfold P15.cells
 simp only [List.forall_mem_cons]
 exact ⟨rfl, h.i.one, h.e.one, h.s.one, h.n.one, rfl, h.h.one, h.g.one, h.gg.one, h.e2.one, h.s2.one, h.n2.one, rfl, h.h2.one, h.g2.one, rfl, h.y1.one, h.y2.one, h.y3.one, fun v hv => by cases hv⟩
def ItR (w : World) (cs : List Value) (x : It) : Prop := ∃ r u, cs = r :: P15.cells u x.2 ∧ RdB w r x.1 ∧ PrRd w u x.2
theorem ItR.oC {w w' : World} {cs : List Value} {x : It} (h : ItR w cs x) (k : Keep [] w w') : ItR w' cs x := by
 obtain ⟨r, u, h0, h1, h2⟩ := h; exact ⟨r, u, h0, h1.oC k, h2.oC k⟩
abbrev RdI (w : World) (v : Value) (ss : List It) : Prop := RdE w 20 (ItR w) v ss
theorem RdI.oC {w w' : World} {v : Value} {ss : List It} (h : RdI w v ss) (k : Keep [] w w') : RdI w' v ss := (RdE.keep h k (fun _ _ h => by cases h)).mono fun _ _ h => h.oC k
theorem RdI.one {w : World} {v : Value} {ss : List It} (h : RdI w v ss) : v.oneCell' = true := by obtain ⟨_, _, h⟩ := h; exact h.one
theorem jW (w : World) : RdI w (.slice none 0 0) [] := ⟨[], gx _ _, Rd.nil _ _⟩
theorem jG {w : World} {css : List (List Value)} {ss : List It} (h : Els 20 (ItR w) css ss) {i : Nat} (hi : i < ss.length) : ∃ x r u, ss[i]? = some x ∧ (css.flatten.drop (i * 20)).take 20 = r :: P15.cells u x.2 ∧ RdB w r x.1 ∧ PrRd w u x.2 := by
 obtain ⟨h1, h2, h3⟩ := h
 have hc : css[i]? = some (css[i]'(by omega)) := List.getElem?_eq_getElem (by omega)
 have hx : ss[i]? = some ss[i] := List.getElem?_eq_getElem hi
 obtain ⟨r, u, h0, hr, hu⟩ := h3 i _ _ hc hx
 exact ⟨_, r, u, hx, by rw [← h0]; exact eU h2 hc, hr, hu⟩
theorem j6 {l : List Value} {k : Nat} {r : Value} {m : List Value} (h : (l.drop k).take 20 = r :: m) : l[k]? = some r ∧ (l.drop (k + 1)).take 19 = m := by
 have hd : l.drop k = r :: l.drop (k + 1) := by
   cases hl : l.drop k with
   | nil => rw [hl] at h; cases h
   | cons a b =>
     rw [hl] at h
     simp only [List.take_succ_cons, List.cons.injEq] at h
     rw [← h.1, List.drop_add_one_eq_tail_drop, hl]; rfl
 refine ⟨?_, ?_⟩
 · have : (l.drop k)[0]? = some r := by rw [hd]; rfl
   rwa [List.getElem?_drop, Nat.add_zero] at this
 · rw [hd] at h
   simp only [List.take_succ_cons, List.cons.injEq] at h
   exact h.2
def ItO (w : World) (lo : Nat) (v : Value) (cs : List Value) (x : It) : Prop := ∃ r u, cs = r :: P15.cells u x.2 ∧ RdB w r x.1 ∧ PrRd w u x.2 ∧ ∀ y, y ∈ vblk r ++ u.blk → lo ≤ y ∧ y < w.heap.size ∧ y ∉ vblk v
def OwI (w : World) (lo : Nat) (T : TypeId) (v : Value) (ss : List It) : Prop := OwnE w lo T 20 (ItO w lo v) v ss
theorem OwI.rdI {w : World} {lo : Nat} {T : TypeId} {v : Value} {ss : List It} (h : OwI w lo T v ss) : RdI w v ss := (OwnE.rd h).mono fun _ _ ⟨r, u, h0, h1, h2, _⟩ => ⟨r, u, h0, h1, h2⟩
theorem OwI.blk {w : World} {lo : Nat} {T : TypeId} {v : Value} {ss : List It} (h : OwI w lo T v ss) : ∀ x, x ∈ vblk v → lo ≤ x ∧ x < w.heap.size := OwnE.blk h
theorem OwI.keepL {S : List Nat} {w w' : World} {lo : Nat} {T : TypeId} {v : Value} {ss : List It} (h : OwI w lo T v ss) (k : Keep S w w') (hS : ∀ x, x ∈ S → x < lo) : OwI w' lo T v ss := by
 refine (OwnE.keep h k (fun x hx hm => by have h1 := hS x hm; have h2 := (OwnE.blk h x hx).1; omega)).mono fun _ _ ⟨r, u, h0, h1, h2, h3⟩ => ⟨r, u, h0, h1.keep k (fun y hy hm => ?_), h2.keep k (fun y hy hm => ?_), fun y hy => ?_⟩
 · have h4 := hS y hm; have h5 := (h3 y (List.mem_append.2 (.inl hy))).1; omega
 · have h4 := hS y hm; have h5 := (h3 y (List.mem_append.2 (.inr hy))).1; omega
 · have h4 := h3 y hy; have h5 := k.size; exact ⟨h4.1, by omega, h4.2.2⟩
theorem OwI.oC {w w' : World} {lo : Nat} {T : TypeId} {v : Value} {ss : List It} (h : OwI w lo T v ss) (k : Keep [] w w') : OwI w' lo T v ss := h.keepL k (fun _ h => by cases h)
theorem OwI.keep {S : List Nat} {w w' : World} {lo : Nat} {T : TypeId} {v : Value} {ss : List It} (h : OwI w lo T v ss) (k : Keep S w w') (hS : ∀ x, lo ≤ x → x ∉ S) : OwI w' lo T v ss := h.keepL k (fun x hx => by rcases Nat.lt_or_ge x lo with h | h; exact h; exact absurd hx (hS x h))
theorem j0 (w : World) (lo : Nat) (T : TypeId) : OwI w lo T (.slice none 0 0) [] := kC _ _ _ _ _
theorem OwI.lo {w : World} {lo lo' : Nat} {T : TypeId} {v : Value} {ss : List It} (h : OwI w lo T v ss) (hl : lo' ≤ lo) : OwI w lo' T v ss := (OwnE.lo h hl).mono fun _ _ ⟨r, u, h0, h1, h2, h3⟩ => ⟨r, u, h0, h1, h2, fun y hy => ⟨Nat.le_trans hl (h3 y hy).1, (h3 y hy).2⟩⟩
theorem OwI.one {w : World} {lo : Nat} {T : TypeId} {v : Value} {ss : List It} (h : OwI w lo T v ss) : v.oneCell' = true := by obtain ⟨css, _, h⟩ := h; exact h.rd.one
section
variable {P : Program} {n : NN} {f : Fr} {w : World} {ty : TypeId}
theorem iZ {t e : TypeId} {x y : Operand} {lo by_ : Nat} {v u r : Value} {U : P15} {ss : List It} {z : It} {zs : List Value} (ht : P.underlying t = some (.slice e)) (he : Ty P e zs 20 by_) (hzs : zs.length = 20)
   (hx : f.ev x = some v) (ho : OwI w lo e v ss) (hy : f.ev y = some u) (hr : Rd w 20 u 1 (r :: U.cells z.2)) (h1 : RdB w r z.1) (h2 : PrRd w U z.2) (h3 : ∀ y, y ∈ vblk r ++ U.blk → lo ≤ y ∧ y < w.heap.size ∧ y ∉ vblk v)
   (hb : (ss.length + 1) * by_ ≤ 140737488355328 ∧ ss.length + 1 ≤ 9223372036854775807) (hl : lo ≤ w.heap.size) :
   Does P n f w (.call { callee := .builtin .append, args := #[x, y], argTypes := #[t, t] }) ty
     (fun v' w' => OwI w' lo e v' (ss ++ [z]) ∧ Keep (vblk v) w w' ∧ (∀ x, x ∈ vblk v' → x ∈ vblk v ∨ w.heap.size ≤ x)) := by
 obtain ⟨css, hE, hO⟩ := ho
 have one : ∀ c ∈ r :: U.cells z.2, c.oneCell' = true := by
   intro c hc
   rcases List.mem_cons.1 hc with rfl | hc
   · exact h1.one
   · exact h2.cells_one c hc
 refine (ns ht he (by decide) hzs hx hO hy hr one hb hl).mono fun v' w' ⟨g1, g2, g3, _⟩ => ⟨⟨css ++ [r :: U.cells z.2], ?_, ?_⟩, g2, g3⟩
 · have hsz := g2.size
   have ap : ∀ {r : Value} {U : P15} {z : It}, RdB w r z.1 → PrRd w U z.2 → (∀ y, y ∈ vblk r ++ U.blk → lo ≤ y ∧ y < w.heap.size ∧ y ∉ vblk v) → RdB w' r z.1 ∧ PrRd w' U z.2 ∧ ∀ y, y ∈ vblk r ++ U.blk → lo ≤ y ∧ y < w'.heap.size ∧ y ∉ vblk v' := fun a1 a2 a3 =>
     ⟨a1.keep g2 (fun y hy => (a3 y (List.mem_append.2 (.inl hy))).2.2), a2.keep g2 (fun y hy => (a3 y (List.mem_append.2 (.inr hy))).2.2), fun y hy => by
       have := a3 y hy
       refine ⟨this.1, by omega, fun hm => ?_⟩
       rcases g3 y hm with h | h
       · exact this.2.2 h
       · omega⟩
   refine Els.snoc (hE.mono fun cs x ⟨r, u, h0, i1, i2, i3⟩ => ⟨r, u, h0, (ap i1 i2 i3).1, (ap i1 i2 i3).2.1, (ap i1 i2 i3).2.2⟩) rfl ⟨r, U, rfl, (ap h1 h2 h3).1, (ap h1 h2 h3).2.1, (ap h1 h2 h3).2.2⟩
 · rw [List.flatten_append, List.length_append]; simpa using g1
end
end Go.Eng
namespace Go.Proofs.Ytonchmcppekldaa.W
open Go Go.Eng Go.Byt
theorem P15.blk_all {u : P15} {Q : Nat → Prop} (hi : ∀ y, y ∈ vblk u.i → Q y) (he : ∀ y, y ∈ vblk u.e → Q y) (hs : ∀ y, y ∈ vblk u.s → Q y) (hn : ∀ y, y ∈ vblk u.n → Q y) (hh : ∀ y, y ∈ vblk u.h → Q y) (hg : ∀ y, y ∈ vblk u.g → Q y) (hgg : ∀ y, y ∈ vblk u.gg → Q y) (he2 : ∀ y, y ∈ vblk u.e2 → Q y) (hs2 : ∀ y, y ∈ vblk u.s2 → Q y) (hn2 : ∀ y, y ∈ vblk u.n2 → Q y) (hh2 : ∀ y, y ∈ vblk u.h2 → Q y) (hg2 : ∀ y, y ∈ vblk u.g2 → Q y) (hy1 : ∀ y, y ∈ vblk u.y1 → Q y) (hy2 : ∀ y, y ∈ vblk u.y2 → Q y) (hy3 : ∀ y, y ∈ vblk u.y3 → Q y) : ∀ y, y ∈ u.blk → Q y := by
 intro y hy
 unfold P15.blk at hy
 simp only [List.mem_append] at hy
 rcases hy with hy | hy | hy | hy | hy | hy | hy | hy | hy | hy | hy | hy | hy | hy | hy
 · exact hi y hy
 · exact he y hy
 · exact hs y hy
 · exact hn y hy
 · exact hh y hy
 · exact hg y hy
 · exact hgg y hy
 · exact he2 y hy
 · exact hs2 y hy
 · exact hn2 y hy
 · exact hh2 y hy
 · exact hg2 y hy
 · exact hy1 y hy
 · exact hy2 y hy
 · exact hy3 y hy
theorem kputP (u : P15) (x : Pr) (w : World) (h : PrRd w u x) (t : PrLen x) : Rets Try.prog 7 [.agg (u.cells x).toArray] w (fun r w' => ∃ v, r = .tuple #[v, .int .i64 (bif prOk x then 0 else 1)] ∧ OwnB w' w.heap.size v (bif prOk x then prB x else []) ∧ Keep [] w w') := eQ u.i u.e u.s u.n u.h u.g u.gg u.e2 u.s2 u.n2 u.h2 u.g2 u.y1 u.y2 u.y3 x w h.i h.e h.s h.n h.h h.g h.gg h.e2 h.s2 h.n2 h.h2 h.g2 h.y1 h.y2 h.y3 t.i t.e t.s t.n t.h t.g t.gg t.e2 t.s2 t.n2 t.h2 t.g2 t.y1 t.y2 t.y3
theorem rputP (u : P15) (x : Pr) (w : World) (h : PrRd w u x) (t : PrLen x) : Rets Try.prog 8 [.agg (u.cells x).toArray] w (fun r w' => ∃ v, r = .tuple #[v, .int .i64 (bif prOk x then 0 else 1)] ∧ OwnB w' w.heap.size v (bif prOk x then prB x else []) ∧ Keep [] w w') := ku u.i u.e u.s u.n u.h u.g u.gg u.e2 u.s2 u.n2 u.h2 u.g2 u.y1 u.y2 u.y3 x w h.i h.e h.s h.n h.h h.g h.gg h.e2 h.s2 h.n2 h.h2 h.g2 h.y1 h.y2 h.y3 t.i t.e t.s t.n t.h t.g t.gg t.e2 t.s2 t.n2 t.h2 t.g2 t.y1 t.y2 t.y3
theorem rightP (u : P15) (x : Pr) (w : World) (h : PrRd w u x) (t : PrLen x) : Rets Try.prog 31 [.agg (u.cells x).toArray] w (fun r w' => r = .bool (prOk x) ∧ Keep [] w w') := cU u.i u.e u.s u.n u.h u.g u.gg u.e2 u.s2 u.n2 u.h2 u.g2 u.y1 u.y2 u.y3 x w h.i h.e h.s h.n h.h h.g h.gg h.e2 h.s2 h.n2 h.h2 h.g2 h.y1 h.y2 h.y3 t.i t.e t.s t.n t.h t.g t.gg t.e2 t.s2 t.n2 t.h2 t.g2 t.y1 t.y2 t.y3
theorem kgetP (v : Value) (c : List UInt8) (w : World) (hv : RdB w v c) (hc : c.length ≤ 140737488351232) : Rets Try.prog 9 [v] w (fun r w' => ∃ u : P15, r = .tuple #[.agg (u.cells (kgR c)).toArray, .int .i64 (kgE c)] ∧ PrRd w' u (kgR c) ∧ (∀ y, y ∈ u.blk → w.heap.size ≤ y ∧ y < w'.heap.size) ∧ Keep [] w w') :=
  (n0 v c w hv hc).mono fun r w' ⟨i, e, s, n, h, g, gg, e2, s2, n2, h2, g2, y1, y2, y3, hr, oi, oe, os, on, oh, og, ogg, oe2, os2, on2, oh2, og2, oy1, oy2, oy3, k⟩ => ⟨⟨i, e, s, n, h, g, gg, e2, s2, n2, h2, g2, y1, y2, y3⟩, hr, ⟨oi.rd, oe.rd, os.rd, on.rd, oh.rd, og.rd, ogg.rd, oe2.rd, os2.rd, on2.rd, oh2.rd, og2.rd, oy1.rd, oy2.rd, oy3.rd⟩, P15.blk_all oi.blk oe.blk os.blk on.blk oh.blk og.blk ogg.blk oe2.blk os2.blk on2.blk oh2.blk og2.blk oy1.blk oy2.blk oy3.blk, k⟩
theorem rgetP (v : Value) (c : List UInt8) (w : World) (hv : RdB w v c) (hc : c.length ≤ 140737488351232) : Rets Try.prog 10 [v] w (fun r w' => ∃ u : P15, r = .tuple #[.agg (u.cells (kgR c)).toArray, .int .i64 (kgE c)] ∧ PrRd w' u (kgR c) ∧ (∀ y, y ∈ u.blk → w.heap.size ≤ y ∧ y < w'.heap.size) ∧ Keep [] w w') :=
  (ky v c w hv hc).mono fun r w' ⟨i, e, s, n, h, g, gg, e2, s2, n2, h2, g2, y1, y2, y3, hr, oi, oe, os, on, oh, og, ogg, oe2, os2, on2, oh2, og2, oy1, oy2, oy3, k⟩ => ⟨⟨i, e, s, n, h, g, gg, e2, s2, n2, h2, g2, y1, y2, y3⟩, hr, ⟨oi.rd, oe.rd, os.rd, on.rd, oh.rd, og.rd, ogg.rd, oe2.rd, os2.rd, on2.rd, oh2.rd, og2.rd, oy1.rd, oy2.rd, oy3.rd⟩, P15.blk_all oi.blk oe.blk os.blk on.blk oh.blk og.blk ogg.blk oe2.blk os2.blk on2.blk oh2.blk og2.blk oy1.blk oy2.blk oy3.blk, k⟩
theorem prcopyP (u : P15) (x : Pr) (w : World) (h : PrRd w u x) (t : PrLen x) : Rets Try.prog 6 [.agg (u.cells x).toArray] w (fun r w' => ∃ q : P15, r = .agg (q.cells x).toArray ∧ PrRd w' q x ∧ (∀ y, y ∈ q.blk → w.heap.size ≤ y ∧ y < w'.heap.size) ∧ Keep [] w w') :=
  (lC u.i u.e u.s u.n u.h u.g u.gg u.e2 u.s2 u.n2 u.h2 u.g2 u.y1 u.y2 u.y3 x w h.i h.e h.s h.n h.h h.g h.gg h.e2 h.s2 h.n2 h.h2 h.g2 h.y1 h.y2 h.y3 t.i t.e t.s t.n t.h t.g t.gg t.e2 t.s2 t.n2 t.h2 t.g2 t.y1 t.y2 t.y3).mono fun r w' ⟨i, e, s, n, h, g, gg, e2, s2, n2, h2, g2, y1, y2, y3, hr, oi, oe, os, on, oh, og, ogg, oe2, os2, on2, oh2, og2, oy1, oy2, oy3, k⟩ => ⟨⟨i, e, s, n, h, g, gg, e2, s2, n2, h2, g2, y1, y2, y3⟩, hr, ⟨oi.rd, oe.rd, os.rd, on.rd, oh.rd, og.rd, ogg.rd, oe2.rd, os2.rd, on2.rd, oh2.rd, og2.rd, oy1.rd, oy2.rd, oy3.rd⟩, P15.blk_all oi.blk oe.blk os.blk on.blk oh.blk og.blk ogg.blk oe2.blk os2.blk on2.blk oh2.blk og2.blk oy1.blk oy2.blk oy3.blk, k⟩
theorem samePrP (u q : P15) (x : Pr) (w : World) (h : PrRd w u x) (g : PrRd w q x) : Rets Try.prog 12 [.agg (u.cells x).toArray, .agg (q.cells x).toArray] w (fun r w' => r = .bool true ∧ Keep [] w w') := kn u.i u.e u.s u.n u.h u.g u.gg u.e2 u.s2 u.n2 u.h2 u.g2 u.y1 u.y2 u.y3 x w h.i h.e h.s h.n h.h h.g h.gg h.e2 h.s2 h.n2 h.h2 h.g2 h.y1 h.y2 h.y3 q.i q.e q.s q.n q.h q.g q.gg q.e2 q.s2 q.n2 q.h2 q.g2 q.y1 q.y2 q.y3 g.i g.e g.s g.n g.h g.g g.gg g.e2 g.s2 g.n2 g.h2 g.g2 g.y1 g.y2 g.y3
def zrJ (w0 : World) (lz : List Value) (L : Nat → Bool) (vs : Nat → Value) (w : World) : Prop :=
 Keep [] w0 w ∧ (L 6 = true → L 4 = true) ∧ (L 4 = true → ∃ b, vs 4 = .pointer (some ⟨b, 0, none⟩) ∧ w0.heap.size ≤ b ∧ Bk w b 30 (bif L 6 then lz else [.slice none 0 0, .slice none 0 0, .slice none 0 0, .int .i64 0, .slice none 0 0, .slice none 0 0])) ∧ (L 5 = true → ∃ b, vs 5 = .pointer (some ⟨b, 0, none⟩) ∧ w0.heap.size ≤ b ∧ Bk w b 32 [.slice none 0 0, .slice none 0 0, .slice none 0 0, .slice none 0 0, .int .i64 0, .slice none 0 0, .slice none 0 0, .slice none 0 0]) ∧ (L 4 = true → L 5 = true → vs 4 ≠ vs 5)
theorem zrJ_0 (w0 : World) (lz : List Value) (vs : Nat → Value) : zrJ w0 lz (fun _ => false) vs w0.drew := ⟨bt _, (fun h => absurd (show false = true from h) Bool.false_ne_true), (fun h => absurd (show false = true from h) Bool.false_ne_true), (fun h => absurd (show false = true from h) Bool.false_ne_true), (fun h => absurd (show false = true from h) Bool.false_ne_true)⟩
theorem zrJ.same {w0 w : World} {lz : List Value} {L : Nat → Bool} {vs vs' : Nat → Value} (h : zrJ w0 lz L vs w) (h4 : L 4 = true → vs 4 = vs' 4) (h5 : L 5 = true → vs 5 = vs' 5) : zrJ w0 lz L vs' w :=
 ⟨h.1, h.2.1, fun g => by obtain ⟨b, e, r⟩ := h.2.2.1 g; exact ⟨b, (h4 g).symm.trans e, r⟩, fun g => by obtain ⟨b, e, r⟩ := h.2.2.2.1 g; exact ⟨b, (h5 g).symm.trans e, r⟩, fun g g' => by rw [← h4 g, ← h5 g']; exact h.2.2.2.2 g g'⟩
theorem zrJ.al4 {w0 w w' : World} {lz : List Value} {L : Nat → Bool} {vs : Nat → Value} {b : Nat} (h : zrJ w0 lz L vs w) (h0 : L 4 = false) (k : Keep [] w w') (eb : b = w.heap.size) (hb : Bk w' b 30 [.slice none 0 0, .slice none 0 0, .slice none 0 0, .int .i64 0, .slice none 0 0, .slice none 0 0]) : zrJ w0 lz (updL L 4) (updV vs 4 (.pointer (some ⟨b, 0, none⟩))) w' := by
 obtain ⟨h1, h2, h3, h4, h5⟩ := h
 have h6 : L 6 = false := by
   cases hq : L 6 with
   | false => rfl
   | true => rw [h2 hq] at h0; cases h0
 refine ⟨h1.trans k, fun _ => rfl, fun _ => ⟨b, rfl, eb ▸ h1.size, ?_⟩, fun g => ?_, fun _ g => ?_⟩
 · rw [show updL L 4 6 = L 6 from rfl, h6]; exact hb
 · obtain ⟨b', e, r1, r2⟩ := h4 g
   exact ⟨b', e, r1, r2.keep k (fun hm => by cases hm)⟩
 · obtain ⟨b', e, r1, r2⟩ := h4 g
   rw [show updV vs 4 (.pointer (some ⟨b, 0, none⟩)) 5 = vs 5 from rfl, e]
   intro hh
   have : b = b' := congrArg (fun v => match v with | .pointer (some a) => a.block | _ => 0) hh
   have := r2.lt; omega
theorem zrJ.al5 {w0 w w' : World} {lz : List Value} {L : Nat → Bool} {vs : Nat → Value} {b : Nat} (h : zrJ w0 lz L vs w) (h0 : L 5 = false) (k : Keep [] w w') (eb : b = w.heap.size) (hb : Bk w' b 32 [.slice none 0 0, .slice none 0 0, .slice none 0 0, .slice none 0 0, .int .i64 0, .slice none 0 0, .slice none 0 0, .slice none 0 0]) : zrJ w0 lz (updL L 5) (updV vs 5 (.pointer (some ⟨b, 0, none⟩))) w' := by
 obtain ⟨h1, h2, h3, h4, h5⟩ := h
 refine ⟨h1.trans k, h2, fun g => ?_, fun _ => ⟨b, rfl, eb ▸ h1.size, hb⟩, fun g _ => ?_⟩
 · obtain ⟨b', e, r1, r2⟩ := h3 g
   exact ⟨b', e, r1, r2.keep k (fun hm => by cases hm)⟩
 · obtain ⟨b', e, r1, r2⟩ := h3 g
   rw [show updV vs 5 (.pointer (some ⟨b, 0, none⟩)) 4 = vs 4 from rfl, e]
   intro hh
   have : b' = b := congrArg (fun v => match v with | .pointer (some a) => a.block | _ => 0) hh
   have := r2.lt; omega
theorem zrJ.st6 {w0 w w' : World} {lz : List Value} {L : Nat → Bool} {vs : Nat → Value} {b : Nat} (h : zrJ w0 lz L vs w) (h4 : L 4 = true) (e : vs 4 = .pointer (some ⟨b, 0, none⟩)) (hb0 : w0.heap.size ≤ b) (k : Keep [b] w w') (hb : Bk w' b 30 lz) : zrJ w0 lz (updL L 6) (updV vs 6 undef) w' := by
 obtain ⟨h1, h2, h3, h5, h6⟩ := h
 refine ⟨h1.new k (fun y hy => .inl ((List.mem_singleton.1 hy) ▸ hb0)), fun _ => h4, fun _ => ⟨b, e, hb0, hb⟩, fun g => ?_, h6⟩
 obtain ⟨b', e', r1, r2⟩ := h5 g
 refine ⟨b', e', r1, r2.keep k (fun hm => ?_)⟩
 have hbb := List.mem_singleton.1 hm
 exact h6 h4 g (by rw [e, e', hbb])
theorem mq (i e s n h g gg e2 s2 n2 h2 g2 y1 y2 y3 : Value) (x : Pr) (w : World) (hi : RdB w i x.pk.init) (he : RdB w e x.pk.leaf.enc) (hs : RdB w s x.pk.leaf.sig) (hn : RdB w n x.pk.leaf.name) (hh : RdB w h x.pk.leaf.hash) (hg : RdB w g x.pk.leaf.sg) (hgg : RdB w gg x.pk.sg) (he2 : RdB w e2 x.lf.enc) (hs2 : RdB w s2 x.lf.sig) (hn2 : RdB w n2 x.lf.name) (hh2 : RdB w h2 x.lf.hash) (hg2 : RdB w g2 x.lf.sg) (hy1 : RdB w y1 x.psk) (hy2 : RdB w y2 x.nonce) (hy3 : RdB w y3 x.enc) (t0 : x.pk.init.length ≤ 140737488351232) (t1 : x.pk.leaf.enc.length ≤ 140737488351232) (t2 : x.pk.leaf.sig.length ≤ 140737488351232) (t3 : x.pk.leaf.name.length ≤ 140737488351232) (t4 : x.pk.leaf.hash.length ≤ 140737488351232) (t5 : x.pk.leaf.sg.length ≤ 140737488351232) (t6 : x.pk.sg.length ≤ 140737488351232) (t7 : x.lf.enc.length ≤ 140737488351232) (t8 : x.lf.sig.length ≤ 140737488351232) (t9 : x.lf.name.length ≤ 140737488351232) (t10 : x.lf.hash.length ≤ 140737488351232) (t11 : x.lf.sg.length ≤ 140737488351232) (t12 : x.psk.length ≤ 140737488351232) (t13 : x.nonce.length ≤ 140737488351232) (t14 : x.enc.length ≤ 140737488351232) : Rets Try.prog 52 [.agg [.int .i64 x.kind, i, e, s, n, .int .i64 x.pk.leaf.src, h, g, gg, e2, s2, n2, .int .i64 x.lf.src, h2, g2, .int .i64 x.ix, y1, y2, y3].toArray] w (fun r w' => r = .bool (zeroP x) ∧ Keep [] w w') := by
  have hB : Keep [] w w := Keep.refl _ _
  refine ai Try.func52 rfl (by decide) Try.ntmps52 rfl (fun fin _ hfin => a5 (aZ (ah (bc (cs := [.int .i64 x.kind, i, e, s, n, .int .i64 x.pk.leaf.src, h, g, gg, e2, s2, n2, .int .i64 x.lf.src, h2, g2, .int .i64 x.ix, y1, y2, y3]) rfl rfl) rfl ?_)))
  rintro _ w1 ⟨b1, rfl, eb1, hb1, k1, z1⟩
  have ge_b1 : w.heap.size ≤ b1 := by have := hB.size; omega
  replace hB := hB.trans k1
  clear eb1 z1
  refine oga rfl rfl (a6 (a5 (fS 7 mixed [(0, _), (1, _), (2, _)] (fun jj v => match jj with | 0 => v = .pointer (some ⟨b1, 0 + 9, none⟩) | 1 => v = .agg [e2, s2, n2, .int .i64 x.lf.src, h2, g2].toArray | 2 => v = .pointer (some ⟨b1, 0 + 1, none⟩) | 3 => v = .agg [i, e, s, n, .int .i64 x.pk.leaf.src, h, g, gg].toArray | _ => True) (zrJ w1 [e2, s2, n2, .int .i64 x.lf.src, h2, g2]) ⟨rfl, rfl, rfl, trivial⟩ (by decide) (by decide) rfl (fun vs => zrJ_0 w1 _ vs) (fun L vs vs' w' h hJ => hJ.same (fun h0 => h 4 h0 rfl) (fun h0 => h 5 h0 rfl)) ?_ ?_)))
  · refine ⟨?_, ?_, ?_, ?_, ?_, ?_, ?_, trivial⟩
    · refine ⟨[], rfl, ?_⟩; rintro L W1 vs hL0 hLd hJ hd
      have hk := hJ.1
      obtain ⟨hB, hb1⟩ := bX hk hB hb1
      refine ⟨true, fun a _ => rfl, fun _ => (aa [(1, _)] ⟨rfl, trivial⟩ ?_), fun h => by cases h⟩
      refine (Gives.does (ak aH rfl bk (by decide) rfl)).mono ?_
      rintro v W2 ⟨rfl, rfl⟩; exact ⟨rfl, hJ⟩
    · refine ⟨[0], rfl, ?_⟩; rintro L W1 vs hL0 hLd hJ hd
      have d0 : vs 0 = .pointer (some ⟨b1, 0 + 9, none⟩) := hd 0 (by decide)
      have hk := hJ.1
      obtain ⟨hB, hb1⟩ := bX hk hB hb1
      refine ⟨true, fun a _ => rfl, fun _ => (aa [(6, .pointer (some ⟨b1, 0 + 9, none⟩))] ⟨congrArg some d0, trivial⟩ ?_), fun h => by cases h⟩
      refine (Gives.does (au (cs' := [_, _, _, _, _, _]) dt bk rfl hb1 rfl rfl)).mono ?_
      rintro v W2 ⟨rfl, rfl⟩; exact ⟨rfl, hJ⟩
    · refine ⟨[], rfl, ?_⟩; rintro L W1 vs hL0 hLd hJ hd
      have hk := hJ.1
      obtain ⟨hB, hb1⟩ := bX hk hB hb1
      refine ⟨true, fun a _ => rfl, fun _ => (aa [(1, _)] ⟨rfl, trivial⟩ ?_), fun h => by cases h⟩
      refine (Gives.does (ak aH rfl cg (by decide) rfl)).mono ?_
      rintro v W2 ⟨rfl, rfl⟩; exact ⟨rfl, hJ⟩
    · refine ⟨[2], rfl, ?_⟩; rintro L W1 vs hL0 hLd hJ hd
      have d2 : vs 2 = .pointer (some ⟨b1, 0 + 1, none⟩) := hd 2 (by decide)
      have hk := hJ.1
      obtain ⟨hB, hb1⟩ := bX hk hB hb1
      refine ⟨true, fun a _ => rfl, fun _ => (aa [(8, .pointer (some ⟨b1, 0 + 1, none⟩))] ⟨congrArg some d2, trivial⟩ ?_), fun h => by cases h⟩
      refine (Gives.does (au (cs' := [_, _, _, _, _, _, _, _]) fu cg rfl hb1 rfl rfl)).mono ?_
      rintro v W2 ⟨rfl, rfl⟩; exact ⟨rfl, hJ⟩
    · refine ⟨[], rfl, ?_⟩; rintro L W1 vs hL0 hLd hJ hd
      have hk := hJ.1
      obtain ⟨hB, hb1⟩ := bX hk hB hb1
      refine ⟨true, fun a _ => rfl, fun _ => (aa [] trivial ?_), fun h => by cases h⟩
      refine (bG bk).mono ?_
      rintro v W2 ⟨b, rfl, eb, hb, k1, z⟩; exact ⟨trivial, hJ.al4 hL0 k1 eb hb⟩
    · refine ⟨[], rfl, ?_⟩; rintro L W1 vs hL0 hLd hJ hd
      have hk := hJ.1
      obtain ⟨hB, hb1⟩ := bX hk hB hb1
      refine ⟨true, fun a _ => rfl, fun _ => (aa [] trivial ?_), fun h => by cases h⟩
      refine (bG cg).mono ?_
      rintro v W2 ⟨b, rfl, eb, hb, k1, z⟩; exact ⟨trivial, hJ.al5 hL0 k1 eb hb⟩
    · refine ⟨[1, 4], rfl, ?_⟩; rintro L W1 vs hL0 hLd hJ hd
      have d1 : vs 1 = .agg [e2, s2, n2, .int .i64 x.lf.src, h2, g2].toArray := hd 1 (by decide)
      have hk := hJ.1
      obtain ⟨hB, hb1⟩ := bX hk hB hb1
      refine ⟨true, fun a _ => rfl, fun _ => ?_, fun h => by cases h⟩
      obtain ⟨b, em, hm0, hM⟩ := hJ.2.2.1 (hLd 4 (by decide))
      refine aa [(3, .pointer (some ⟨b, 0, none⟩)), (7, .agg [e2, s2, n2, .int .i64 x.lf.src, h2, g2].toArray)] ⟨congrArg some em, congrArg some d1, trivial⟩ ?_
      rw [show L 6 = false from hL0] at hM
      refine (bK bk rfl rfl rfl (by simp only [List.forall_mem_cons]; refine ⟨(by first | rfl | exact Rd.one (by first | assumption | exact Own.rd (by assumption) | exact Rd.oC (by assumption) hB | exact Own.rd (Own.oC (by assumption) hB))), (by first | rfl | exact Rd.one (by first | assumption | exact Own.rd (by assumption) | exact Rd.oC (by assumption) hB | exact Own.rd (Own.oC (by assumption) hB))), (by first | rfl | exact Rd.one (by first | assumption | exact Own.rd (by assumption) | exact Rd.oC (by assumption) hB | exact Own.rd (Own.oC (by assumption) hB))), (by first | rfl | exact Rd.one (by first | assumption | exact Own.rd (by assumption) | exact Rd.oC (by assumption) hB | exact Own.rd (Own.oC (by assumption) hB))), (by first | rfl | exact Rd.one (by first | assumption | exact Own.rd (by assumption) | exact Rd.oC (by assumption) hB | exact Own.rd (Own.oC (by assumption) hB))), (by first | rfl | exact Rd.one (by first | assumption | exact Own.rd (by assumption) | exact Rd.oC (by assumption) hB | exact Own.rd (Own.oC (by assumption) hB))), fun v hv => by cases hv⟩) hM rfl).mono ?_
      rintro v W2 ⟨h2, k1, z⟩; exact ⟨trivial, hJ.st6 (hLd 4 (by decide)) em hm0 k1 h2⟩
  rintro w2 L hL vs hJ hS
  have e9 := hS 3 (by decide) rfl
  obtain ⟨bz3, em3, hm3, hbz3⟩ := hJ.2.2.1 (hL 4 (by decide))
  obtain ⟨bz4, em4, hm4, hbz4⟩ := hJ.2.2.2.1 (hL 5 (by decide))
  rw [hL 6 (by decide)] at hbz3
  have nez : bz3 ≠ bz4 := fun hh => hJ.2.2.2.2 (hL 4 (by decide)) (hL 5 (by decide)) (by rw [em3, em4, hh])
  have kJ := hJ.1
  have nz3 : b1 ≠ bz3 := by have := hb1.lt; omega
  have nz4 : b1 ≠ bz4 := by have := hb1.lt; omega
  have ge_bz3 : w.heap.size ≤ bz3 := by have := hB.size; omega
  have ge_bz4 : w.heap.size ≤ bz4 := by have := hB.size; omega
  obtain ⟨hB, hb1⟩ := bX kJ hB hb1
  replace hbz3 : Bk w2 bz3 _ [e2, s2, n2, .int .i64 x.lf.src, h2, g2] := hbz3
  refine cv [(3, .pointer (some ⟨bz3, 0, none⟩)), (4, .pointer (some ⟨bz4, 0, none⟩)), (9, .agg [i, e, s, n, .int .i64 x.pk.leaf.src, h, g, gg].toArray), (0, _), (1, _), (2, _)] ⟨congrArg some em3, congrArg some em4, congrArg some e9, rfl, rfl, rfl, trivial⟩ ?_
  refine an (bK cg rfl rfl rfl (by simp only [List.forall_mem_cons]; refine ⟨(by first | rfl | exact Rd.one (by first | assumption | exact Own.rd (by assumption) | exact Rd.oC (by assumption) hB | exact Own.rd (Own.oC (by assumption) hB))), (by first | rfl | exact Rd.one (by first | assumption | exact Own.rd (by assumption) | exact Rd.oC (by assumption) hB | exact Own.rd (Own.oC (by assumption) hB))), (by first | rfl | exact Rd.one (by first | assumption | exact Own.rd (by assumption) | exact Rd.oC (by assumption) hB | exact Own.rd (Own.oC (by assumption) hB))), (by first | rfl | exact Rd.one (by first | assumption | exact Own.rd (by assumption) | exact Rd.oC (by assumption) hB | exact Own.rd (Own.oC (by assumption) hB))), (by first | rfl | exact Rd.one (by first | assumption | exact Own.rd (by assumption) | exact Rd.oC (by assumption) hB | exact Own.rd (Own.oC (by assumption) hB))), (by first | rfl | exact Rd.one (by first | assumption | exact Own.rd (by assumption) | exact Rd.oC (by assumption) hB | exact Own.rd (Own.oC (by assumption) hB))), (by first | rfl | exact Rd.one (by first | assumption | exact Own.rd (by assumption) | exact Rd.oC (by assumption) hB | exact Own.rd (Own.oC (by assumption) hB))), (by first | rfl | exact Rd.one (by first | assumption | exact Own.rd (by assumption) | exact Rd.oC (by assumption) hB | exact Own.rd (Own.oC (by assumption) hB))), fun v hv => by cases hv⟩) hbz4 rfl) ?_
  rintro _ w3 ⟨hb2, k2, z2⟩
  replace hb1 := hb1.keep k2 (nm nz4)
  replace hbz3 := hbz3.keep k2 (nm nez)
  replace hB := hB.new k2 (nw ge_bz4)
  clear z2
  replace hb2 : Bk w3 bz4 _ [i, e, s, n, .int .i64 x.pk.leaf.src, h, g, gg] := hb2
  refine a6 (a5 (aZ (a7 (ak aH rfl am (by decide) rfl) rfl (a7 (ae aw rfl hb1 rfl) rfl (a7 (ay aA rfl (by first | assumption | exact Own.rd (by assumption) | exact Rd.oC (by assumption) hB | exact Own.rd (Own.oC (by assumption) hB))) rfl (a7 (ak aH rfl am (by decide) rfl) rfl (a7 (ae aw rfl hb1 rfl) rfl (a7 (ay aA rfl (by first | assumption | exact Own.rd (by assumption) | exact Rd.oC (by assumption) hB | exact Own.rd (Own.oC (by assumption) hB))) rfl ?_))))))))
  refine a7 (bN rfl rfl (by omega)) rfl (a7 (ak aH rfl am (by decide) rfl) rfl (a7 (ae aw rfl hb1 rfl) rfl (a7 (ay aA rfl (by first | assumption | exact Own.rd (by assumption) | exact Rd.oC (by assumption) hB | exact Own.rd (Own.oC (by assumption) hB))) rfl (a7 (bN rfl rfl (by omega)) rfl (a7 (ak aE rfl am (by decide) rfl) rfl (a7 (ae aw rfl hbz3 rfl) rfl (a7 (ay aA rfl (by first | assumption | exact Own.rd (by assumption) | exact Rd.oC (by assumption) hB | exact Own.rd (Own.oC (by assumption) hB))) rfl (a7 (bN rfl rfl (by omega)) rfl ?_))))))))
  refine a7 (ak aE rfl am (by decide) rfl) rfl (a7 (ae aw rfl hbz3 rfl) rfl (a7 (ay aA rfl (by first | assumption | exact Own.rd (by assumption) | exact Rd.oC (by assumption) hB | exact Own.rd (Own.oC (by assumption) hB))) rfl (a7 (bN rfl rfl (by omega)) rfl (a7 (ak aE rfl am (by decide) rfl) rfl (a7 (ae aw rfl hbz3 rfl) rfl (a7 (ay aA rfl (by first | assumption | exact Own.rd (by assumption) | exact Rd.oC (by assumption) hB | exact Own.rd (Own.oC (by assumption) hB))) rfl (a7 (bN rfl rfl (by omega)) rfl (a7 (ak aE rfl am (by decide) rfl) rfl ?_))))))))
  refine a7 (ae aw rfl hbz3 rfl) rfl (a7 (ay aA rfl (by first | assumption | exact Own.rd (by assumption) | exact Rd.oC (by assumption) hB | exact Own.rd (Own.oC (by assumption) hB))) rfl (a7 (bN rfl rfl (by omega)) rfl (a7 (ak aE rfl am (by decide) rfl) rfl (a7 (ae aw rfl hbz3 rfl) rfl (a7 (ay aA rfl (by first | assumption | exact Own.rd (by assumption) | exact Rd.oC (by assumption) hB | exact Own.rd (Own.oC (by assumption) hB))) rfl (a7 (bN rfl rfl (by omega)) rfl (oga rfl rfl (a6 ?_))))))))
  refine af [(1, _), (3, _), (4, _), (5, _)] ⟨rfl, rfl, rfl, rfl, trivial⟩ (a5 (aZ (ogm rfl rfl (a7 (ak aL rfl am (by decide) rfl) rfl (a7 (ae aw rfl hb2 rfl) rfl (a7 (ay aA rfl (by first | assumption | exact Own.rd (by assumption) | exact Rd.oC (by assumption) hB | exact Own.rd (Own.oC (by assumption) hB))) rfl (a7 (ak aL rfl am (by decide) rfl) rfl (a7 (ae aw rfl hb2 rfl) rfl ?_))))))))
  refine a7 (ay aA rfl (by first | assumption | exact Own.rd (by assumption) | exact Rd.oC (by assumption) hB | exact Own.rd (Own.oC (by assumption) hB))) rfl (a7 (bN rfl rfl (by omega)) rfl (a7 (ak aL rfl bk (by decide) rfl) rfl (a7 (ak aE rfl am (by decide) rfl) rfl (a7 (ae aw rfl hb2 rfl) rfl (a7 (ay aA rfl (by first | assumption | exact Own.rd (by assumption) | exact Rd.oC (by assumption) hB | exact Own.rd (Own.oC (by assumption) hB))) rfl (a7 (bN rfl rfl (by omega)) rfl (a7 (ak aL rfl bk (by decide) rfl) rfl (a7 (ak aE rfl am (by decide) rfl) rfl ?_))))))))
  refine a7 (ae aw rfl hb2 rfl) rfl (a7 (ay aA rfl (by first | assumption | exact Own.rd (by assumption) | exact Rd.oC (by assumption) hB | exact Own.rd (Own.oC (by assumption) hB))) rfl (a7 (bN rfl rfl (by omega)) rfl (a7 (ak aL rfl bk (by decide) rfl) rfl (a7 (ak aE rfl am (by decide) rfl) rfl (a7 (ae aw rfl hb2 rfl) rfl (a7 (ay aA rfl (by first | assumption | exact Own.rd (by assumption) | exact Rd.oC (by assumption) hB | exact Own.rd (Own.oC (by assumption) hB))) rfl (a7 (bN rfl rfl (by omega)) rfl (a7 (ak aL rfl bk (by decide) rfl) rfl ?_))))))))
  refine a7 (ak aE rfl am (by decide) rfl) rfl (a7 (ae aw rfl hb2 rfl) rfl (a7 (ay aA rfl (by first | assumption | exact Own.rd (by assumption) | exact Rd.oC (by assumption) hB | exact Own.rd (Own.oC (by assumption) hB))) rfl (a7 (bN rfl rfl (by omega)) rfl (a7 (ak aL rfl bk (by decide) rfl) rfl (a7 (ak aE rfl am (by decide) rfl) rfl (a7 (ae aw rfl hb2 rfl) rfl (a7 (ay aA rfl (by first | assumption | exact Own.rd (by assumption) | exact Rd.oC (by assumption) hB | exact Own.rd (Own.oC (by assumption) hB))) rfl (a7 (bN rfl rfl (by omega)) rfl ?_))))))))
  refine a7 (bN rfl rfl (by omega)) rfl (oga rfl rfl (a6 (af [(1, _), (3, _), (4, _), (5, _)] ⟨rfl, rfl, rfl, rfl, trivial⟩ (a5 (aZ (ogm rfl rfl (a7 (bE rfl rfl) rfl (ogm rfl rfl ?_))))))))
  refine aq 77 true rfl (fun c1 hgc1 => a9 [(1, _)] (ad rfl rfl rfl hgc1) ⟨bB rfl, trivial⟩ (fun hw1 => ak aH rfl bh (by decide) rfl) rfl (a9 [(78, _)] (ad rfl rfl rfl hgc1) ⟨ag rfl, trivial⟩ (fun hw2 => ae cY rfl hb1 rfl) rfl (a9 [(79, _)] (ad rfl rfl rfl hgc1) ⟨ag rfl, trivial⟩ (fun hw3 => bE rfl rfl) rfl (a7 (bM rfl rfl hgc1) rfl (ogm rfl rfl (aq 82 true rfl (fun c2 hgc2 => a9 [(1, _)] (ad rfl rfl rfl hgc2) ⟨bB rfl, trivial⟩ (fun hw4 => ak aH rfl bh (by decide) rfl) rfl (a9 [(83, _)] (ad rfl rfl rfl hgc2) ⟨ag rfl, trivial⟩ (fun hw5 => ae cY rfl hb1 rfl) rfl ?_))))))))
  refine a9 [(84, _)] (ad rfl rfl rfl hgc2) ⟨ag rfl, trivial⟩ (fun hw6 => bE rfl rfl) rfl (a7 (bM rfl rfl hgc2) rfl (ogm rfl rfl (aq 87 true rfl (fun c3 hgc3 => a9 [(3, _)] (ad rfl rfl rfl hgc3) ⟨bB rfl, trivial⟩ (fun hw7 => ak aE rfl bh (by decide) rfl) rfl (a9 [(88, _)] (ad rfl rfl rfl hgc3) ⟨ag rfl, trivial⟩ (fun hw8 => ae cY rfl hbz3 rfl) rfl (a9 [(89, _)] (ad rfl rfl rfl hgc3) ⟨ag rfl, trivial⟩ (fun hw9 => bE rfl rfl) rfl (a7 (bM rfl rfl hgc3) rfl (ogm rfl rfl ?_))))))))
  refine aq 92 true rfl (fun c4 hgc4 => a9 [(4, _)] (ad rfl rfl rfl hgc4) ⟨bB rfl, trivial⟩ (fun hw10 => ak aL rfl bk (by decide) rfl) rfl (a9 [(93, _)] (ad rfl rfl rfl hgc4) ⟨ag rfl, trivial⟩ (fun hw11 => ak aE rfl bh (by decide) rfl) rfl (a9 [(94, _)] (ad rfl rfl rfl hgc4) ⟨ag rfl, trivial⟩ (fun hw12 => ae cY rfl hb2 rfl) rfl (a9 [(95, _)] (ad rfl rfl rfl hgc4) ⟨ag rfl, trivial⟩ (fun hw13 => bE rfl rfl) rfl (a7 (bM rfl rfl hgc4) rfl (oga rfl rfl (a6 (af [(2, _)] ⟨rfl, trivial⟩ ?_))))))))
  refine al hfin Try.results52 rfl ?_
  refine ⟨congrArg Value.bool ?_, hB⟩
  unfold zeroP zeroN
  rw [Bool.eq_iff_iff]; simp only [Bool.and_eq_true, decide_eq_true_eq]
  omega
theorem mA (u : P15) (x : Pr) (w : World) (h : PrRd w u x) (t : PrLen x) : Rets Try.prog 52 [.agg (u.cells x).toArray] w (fun r w' => r = .bool (zeroP x) ∧ Keep [] w w') := mq u.i u.e u.s u.n u.h u.g u.gg u.e2 u.s2 u.n2 u.h2 u.g2 u.y1 u.y2 u.y3 x w h.i h.e h.s h.n h.h h.g h.gg h.e2 h.s2 h.n2 h.h2 h.g2 h.y1 h.y2 h.y3 t.i t.e t.s t.n t.h t.g t.gg t.e2 t.s2 t.n2 t.h2 t.g2 t.y1 t.y2 t.y3
theorem lZ (i e s n h g gg e2 s2 n2 h2 g2 y1 y2 y3 : Value) (x : Pr) (w : World) (hi : RdB w i x.pk.init) (he : RdB w e x.pk.leaf.enc) (hs : RdB w s x.pk.leaf.sig) (hn : RdB w n x.pk.leaf.name) (hh : RdB w h x.pk.leaf.hash) (hg : RdB w g x.pk.leaf.sg) (hgg : RdB w gg x.pk.sg) (he2 : RdB w e2 x.lf.enc) (hs2 : RdB w s2 x.lf.sig) (hn2 : RdB w n2 x.lf.name) (hh2 : RdB w h2 x.lf.hash) (hg2 : RdB w g2 x.lf.sg) (hy1 : RdB w y1 x.psk) (hy2 : RdB w y2 x.nonce) (hy3 : RdB w y3 x.enc) (t0 : x.pk.init.length ≤ 140737488351232) (t1 : x.pk.leaf.enc.length ≤ 140737488351232) (t2 : x.pk.leaf.sig.length ≤ 140737488351232) (t3 : x.pk.leaf.name.length ≤ 140737488351232) (t4 : x.pk.leaf.hash.length ≤ 140737488351232) (t5 : x.pk.leaf.sg.length ≤ 140737488351232) (t6 : x.pk.sg.length ≤ 140737488351232) (t7 : x.lf.enc.length ≤ 140737488351232) (t8 : x.lf.sig.length ≤ 140737488351232) (t9 : x.lf.name.length ≤ 140737488351232) (t10 : x.lf.hash.length ≤ 140737488351232) (t11 : x.lf.sg.length ≤ 140737488351232) (t12 : x.psk.length ≤ 140737488351232) (t13 : x.nonce.length ≤ 140737488351232) (t14 : x.enc.length ≤ 140737488351232) : Rets Try.prog 92 [.agg [.int .i64 x.kind, i, e, s, n, .int .i64 x.pk.leaf.src, h, g, gg, e2, s2, n2, .int .i64 x.lf.src, h2, g2, .int .i64 x.ix, y1, y2, y3].toArray] w (fun r w' => r = .bool (zeroP x) ∧ Keep [] w w') := by
 have hB : Keep [] w w := Keep.refl _ _
 refine ai Try.func92 rfl (by decide) Try.ntmps92 rfl (fun fin _ hfin => a5 (aZ (ah (bc (cs := [.int .i64 x.kind, i, e, s, n, .int .i64 x.pk.leaf.src, h, g, gg, e2, s2, n2, .int .i64 x.lf.src, h2, g2, .int .i64 x.ix, y1, y2, y3]) rfl rfl) rfl ?_)))
 rintro _ w1 ⟨b1, rfl, eb1, hb1, k1, z1⟩
 have ge_b1 : w.heap.size ≤ b1 := by have := hB.size; omega
 replace hB := hB.trans k1
 clear eb1 z1
 refine oga rfl rfl (a6 (a5 (aZ (a7 (ak aB rfl bh (by decide) rfl) rfl (a7 (ae cY rfl hb1 rfl) rfl (a7 (bE rfl rfl) rfl (ogm rfl rfl (aq 6 true rfl (fun c1 hgc1 => a9 [(1, _)] (ad rfl rfl rfl hgc1) ⟨bB rfl, trivial⟩ (fun hw1 => ak aB rfl bh (by decide) rfl) rfl (a9 [(7, _)] (ad rfl rfl rfl hgc1) ⟨ag rfl, trivial⟩ (fun hw2 => ae cY rfl hb1 rfl) rfl (a9 [(8, _)] (ad rfl rfl rfl hgc1) ⟨ag rfl, trivial⟩ (fun hw3 => bE rfl rfl) rfl (a7 (bM rfl rfl hgc1) rfl (ogm rfl rfl (aq 11 true rfl (fun c2 hgc2 => ?_)))))))))))))))
 refine a9 [(1, _)] (ad rfl rfl rfl hgc2) ⟨bB rfl, trivial⟩ (fun hw4 => ak aB rfl am (by decide) rfl) rfl (a9 [(12, _)] (ad rfl rfl rfl hgc2) ⟨ag rfl, trivial⟩ (fun hw5 => ae aw rfl hb1 rfl) rfl (a9 [(13, _)] (ad rfl rfl rfl hgc2) ⟨ag rfl, trivial⟩ (fun hw6 => ay aA rfl (by first | assumption | exact Own.rd ‹_› | exact Rd.oC ‹_› hB | exact Own.rd (Own.oC ‹_› hB))) rfl (a9 [(1, _)] (ad rfl rfl rfl hgc2) ⟨bB rfl, trivial⟩ (fun hw7 => ak aB rfl am (by decide) rfl) rfl (a9 [(15, _)] (ad rfl rfl rfl hgc2) ⟨ag rfl, trivial⟩ (fun hw8 => ae aw rfl hb1 rfl) rfl (a9 [(16, _)] (ad rfl rfl rfl hgc2) ⟨ag rfl, trivial⟩ (fun hw9 => ay aA rfl (by first | assumption | exact Own.rd ‹_› | exact Rd.oC ‹_› hB | exact Own.rd (Own.oC ‹_› hB))) rfl (a9 [(14, _), (17, _)] (ad rfl rfl rfl hgc2) ⟨ag rfl, ag rfl, trivial⟩ (fun hw10 => bN rfl rfl (by omega)) rfl (a9 [(1, _)] (ad rfl rfl rfl hgc2) ⟨bB rfl, trivial⟩ (fun hw11 => ak aB rfl am (by decide) rfl) rfl (a9 [(19, _)] (ad rfl rfl rfl hgc2) ⟨ag rfl, trivial⟩ (fun hw12 => ae aw rfl hb1 rfl) rfl ?_))))))))
 refine a9 [(20, _)] (ad rfl rfl rfl hgc2) ⟨ag rfl, trivial⟩ (fun hw13 => ay aA rfl (by first | assumption | exact Own.rd ‹_› | exact Rd.oC ‹_› hB | exact Own.rd (Own.oC ‹_› hB))) rfl (a9 [(18, _), (21, _)] (ad rfl rfl rfl hgc2) ⟨ag rfl, ag rfl, trivial⟩ (fun hw14 => bN rfl rfl (by omega)) rfl (a9 [(22, _)] (ad rfl rfl rfl hgc2) ⟨ag rfl, trivial⟩ (fun hw15 => bE rfl rfl) rfl (a7 (bM rfl rfl hgc2) rfl (ogm rfl rfl (aq 25 true rfl (fun c3 hgc3 => a9 [(1, _)] (ad rfl rfl rfl hgc3) ⟨bB rfl, trivial⟩ (fun hw16 => ak aB rfl cp (by decide) rfl) rfl (a9 [(26, _)] (ad rfl rfl rfl hgc3) ⟨ag rfl, trivial⟩ (fun hw17 => ak aK rfl am (by decide) rfl) rfl (a9 [(27, _)] (ad rfl rfl rfl hgc3) ⟨ag rfl, trivial⟩ (fun hw18 => ae aw rfl hb1 rfl) rfl (a9 [(28, _)] (ad rfl rfl rfl hgc3) ⟨ag rfl, trivial⟩ (fun hw19 => ay aA rfl (by first | assumption | exact Own.rd ‹_› | exact Rd.oC ‹_› hB | exact Own.rd (Own.oC ‹_› hB))) rfl ?_)))))))))
 refine a9 [(1, _)] (ad rfl rfl rfl hgc3) ⟨bB rfl, trivial⟩ (fun hw20 => ak aB rfl cp (by decide) rfl) rfl (a9 [(30, _)] (ad rfl rfl rfl hgc3) ⟨ag rfl, trivial⟩ (fun hw21 => ak aK rfl am (by decide) rfl) rfl (a9 [(31, _)] (ad rfl rfl rfl hgc3) ⟨ag rfl, trivial⟩ (fun hw22 => ae aw rfl hb1 rfl) rfl (a9 [(32, _)] (ad rfl rfl rfl hgc3) ⟨ag rfl, trivial⟩ (fun hw23 => ay aA rfl (by first | assumption | exact Own.rd ‹_› | exact Rd.oC ‹_› hB | exact Own.rd (Own.oC ‹_› hB))) rfl (a9 [(29, _), (33, _)] (ad rfl rfl rfl hgc3) ⟨ag rfl, ag rfl, trivial⟩ (fun hw24 => bN rfl rfl (by omega)) rfl (a9 [(34, _)] (ad rfl rfl rfl hgc3) ⟨ag rfl, trivial⟩ (fun hw25 => bE rfl rfl) rfl (a7 (bM rfl rfl hgc3) rfl (ogm rfl rfl (aq 37 true rfl (fun c4 hgc4 => a9 [(1, _)] (ad rfl rfl rfl hgc4) ⟨bB rfl, trivial⟩ (fun hw26 => ak aB rfl cp (by decide) rfl) rfl ?_)))))))))
 refine a9 [(38, _)] (ad rfl rfl rfl hgc4) ⟨ag rfl, trivial⟩ (fun hw27 => ak aK rfl bm (by decide) rfl) rfl (a9 [(39, _)] (ad rfl rfl rfl hgc4) ⟨ag rfl, trivial⟩ (fun hw28 => ak aC rfl am (by decide) rfl) rfl (a9 [(40, _)] (ad rfl rfl rfl hgc4) ⟨ag rfl, trivial⟩ (fun hw29 => ae aw rfl hb1 rfl) rfl (a9 [(41, _)] (ad rfl rfl rfl hgc4) ⟨ag rfl, trivial⟩ (fun hw30 => ay aA rfl (by first | assumption | exact Own.rd ‹_› | exact Rd.oC ‹_› hB | exact Own.rd (Own.oC ‹_› hB))) rfl (a9 [(1, _)] (ad rfl rfl rfl hgc4) ⟨bB rfl, trivial⟩ (fun hw31 => ak aB rfl cp (by decide) rfl) rfl (a9 [(43, _)] (ad rfl rfl rfl hgc4) ⟨ag rfl, trivial⟩ (fun hw32 => ak aK rfl bm (by decide) rfl) rfl (a9 [(44, _)] (ad rfl rfl rfl hgc4) ⟨ag rfl, trivial⟩ (fun hw33 => ak aC rfl am (by decide) rfl) rfl (a9 [(45, _)] (ad rfl rfl rfl hgc4) ⟨ag rfl, trivial⟩ (fun hw34 => ae aw rfl hb1 rfl) rfl (a9 [(46, _)] (ad rfl rfl rfl hgc4) ⟨ag rfl, trivial⟩ (fun hw35 => ay aA rfl (by first | assumption | exact Own.rd ‹_› | exact Rd.oC ‹_› hB | exact Own.rd (Own.oC ‹_› hB))) rfl ?_))))))))
 refine a9 [(42, _), (47, _)] (ad rfl rfl rfl hgc4) ⟨ag rfl, ag rfl, trivial⟩ (fun hw36 => bN rfl rfl (by omega)) rfl (a9 [(1, _)] (ad rfl rfl rfl hgc4) ⟨bB rfl, trivial⟩ (fun hw37 => ak aB rfl cp (by decide) rfl) rfl (a9 [(49, _)] (ad rfl rfl rfl hgc4) ⟨ag rfl, trivial⟩ (fun hw38 => ak aK rfl bm (by decide) rfl) rfl (a9 [(50, _)] (ad rfl rfl rfl hgc4) ⟨ag rfl, trivial⟩ (fun hw39 => ak aC rfl am (by decide) rfl) rfl (a9 [(51, _)] (ad rfl rfl rfl hgc4) ⟨ag rfl, trivial⟩ (fun hw40 => ae aw rfl hb1 rfl) rfl (a9 [(52, _)] (ad rfl rfl rfl hgc4) ⟨ag rfl, trivial⟩ (fun hw41 => ay aA rfl (by first | assumption | exact Own.rd ‹_› | exact Rd.oC ‹_› hB | exact Own.rd (Own.oC ‹_› hB))) rfl (a9 [(48, _), (53, _)] (ad rfl rfl rfl hgc4) ⟨ag rfl, ag rfl, trivial⟩ (fun hw42 => bN rfl rfl (by omega)) rfl (a9 [(1, _)] (ad rfl rfl rfl hgc4) ⟨bB rfl, trivial⟩ (fun hw43 => ak aB rfl cp (by decide) rfl) rfl (a9 [(55, _)] (ad rfl rfl rfl hgc4) ⟨ag rfl, trivial⟩ (fun hw44 => ak aK rfl bm (by decide) rfl) rfl ?_))))))))
 refine a9 [(56, _)] (ad rfl rfl rfl hgc4) ⟨ag rfl, trivial⟩ (fun hw45 => ak aC rfl am (by decide) rfl) rfl (a9 [(57, _)] (ad rfl rfl rfl hgc4) ⟨ag rfl, trivial⟩ (fun hw46 => ae aw rfl hb1 rfl) rfl (a9 [(58, _)] (ad rfl rfl rfl hgc4) ⟨ag rfl, trivial⟩ (fun hw47 => ay aA rfl (by first | assumption | exact Own.rd ‹_› | exact Rd.oC ‹_› hB | exact Own.rd (Own.oC ‹_› hB))) rfl (a9 [(54, _), (59, _)] (ad rfl rfl rfl hgc4) ⟨ag rfl, ag rfl, trivial⟩ (fun hw48 => bN rfl rfl (by omega)) rfl (a9 [(1, _)] (ad rfl rfl rfl hgc4) ⟨bB rfl, trivial⟩ (fun hw49 => ak aB rfl cp (by decide) rfl) rfl (a9 [(61, _)] (ad rfl rfl rfl hgc4) ⟨ag rfl, trivial⟩ (fun hw50 => ak aK rfl bm (by decide) rfl) rfl (a9 [(62, _)] (ad rfl rfl rfl hgc4) ⟨ag rfl, trivial⟩ (fun hw51 => ak aC rfl am (by decide) rfl) rfl (a9 [(63, _)] (ad rfl rfl rfl hgc4) ⟨ag rfl, trivial⟩ (fun hw52 => ae aw rfl hb1 rfl) rfl (a9 [(64, _)] (ad rfl rfl rfl hgc4) ⟨ag rfl, trivial⟩ (fun hw53 => ay aA rfl (by first | assumption | exact Own.rd ‹_› | exact Rd.oC ‹_› hB | exact Own.rd (Own.oC ‹_› hB))) rfl ?_))))))))
 refine a9 [(60, _), (65, _)] (ad rfl rfl rfl hgc4) ⟨ag rfl, ag rfl, trivial⟩ (fun hw54 => bN rfl rfl (by omega)) rfl (a9 [(66, _)] (ad rfl rfl rfl hgc4) ⟨ag rfl, trivial⟩ (fun hw55 => bE rfl rfl) rfl (a7 (bM rfl rfl hgc4) rfl (ogm rfl rfl (aq 69 true rfl (fun c5 hgc5 => a9 [(1, _)] (ad rfl rfl rfl hgc5) ⟨bB rfl, trivial⟩ (fun hw56 => ak aB rfl cp (by decide) rfl) rfl (a9 [(70, _)] (ad rfl rfl rfl hgc5) ⟨ag rfl, trivial⟩ (fun hw57 => ak aK rfl bm (by decide) rfl) rfl (a9 [(71, _)] (ad rfl rfl rfl hgc5) ⟨ag rfl, trivial⟩ (fun hw58 => ak aC rfl bh (by decide) rfl) rfl (a9 [(72, _)] (ad rfl rfl rfl hgc5) ⟨ag rfl, trivial⟩ (fun hw59 => ae cY rfl hb1 rfl) rfl (a9 [(73, _)] (ad rfl rfl rfl hgc5) ⟨ag rfl, trivial⟩ (fun hw60 => bE rfl rfl) rfl ?_)))))))))
 refine a7 (bM rfl rfl hgc5) rfl (ogm rfl rfl (aq 76 true rfl (fun c6 hgc6 => a9 [(1, _)] (ad rfl rfl rfl hgc6) ⟨bB rfl, trivial⟩ (fun hw61 => ak aB rfl bm (by decide) rfl) rfl (a9 [(77, _)] (ad rfl rfl rfl hgc6) ⟨ag rfl, trivial⟩ (fun hw62 => ak aC rfl am (by decide) rfl) rfl (a9 [(78, _)] (ad rfl rfl rfl hgc6) ⟨ag rfl, trivial⟩ (fun hw63 => ae aw rfl hb1 rfl) rfl (a9 [(79, _)] (ad rfl rfl rfl hgc6) ⟨ag rfl, trivial⟩ (fun hw64 => ay aA rfl (by first | assumption | exact Own.rd ‹_› | exact Rd.oC ‹_› hB | exact Own.rd (Own.oC ‹_› hB))) rfl (a9 [(1, _)] (ad rfl rfl rfl hgc6) ⟨bB rfl, trivial⟩ (fun hw65 => ak aB rfl bm (by decide) rfl) rfl (a9 [(81, _)] (ad rfl rfl rfl hgc6) ⟨ag rfl, trivial⟩ (fun hw66 => ak aC rfl am (by decide) rfl) rfl (a9 [(82, _)] (ad rfl rfl rfl hgc6) ⟨ag rfl, trivial⟩ (fun hw67 => ae aw rfl hb1 rfl) rfl ?_)))))))))
 refine a9 [(83, _)] (ad rfl rfl rfl hgc6) ⟨ag rfl, trivial⟩ (fun hw68 => ay aA rfl (by first | assumption | exact Own.rd ‹_› | exact Rd.oC ‹_› hB | exact Own.rd (Own.oC ‹_› hB))) rfl (a9 [(80, _), (84, _)] (ad rfl rfl rfl hgc6) ⟨ag rfl, ag rfl, trivial⟩ (fun hw69 => bN rfl rfl (by omega)) rfl (a9 [(1, _)] (ad rfl rfl rfl hgc6) ⟨bB rfl, trivial⟩ (fun hw70 => ak aB rfl bm (by decide) rfl) rfl (a9 [(86, _)] (ad rfl rfl rfl hgc6) ⟨ag rfl, trivial⟩ (fun hw71 => ak aC rfl am (by decide) rfl) rfl (a9 [(87, _)] (ad rfl rfl rfl hgc6) ⟨ag rfl, trivial⟩ (fun hw72 => ae aw rfl hb1 rfl) rfl (a9 [(88, _)] (ad rfl rfl rfl hgc6) ⟨ag rfl, trivial⟩ (fun hw73 => ay aA rfl (by first | assumption | exact Own.rd ‹_› | exact Rd.oC ‹_› hB | exact Own.rd (Own.oC ‹_› hB))) rfl (a9 [(85, _), (89, _)] (ad rfl rfl rfl hgc6) ⟨ag rfl, ag rfl, trivial⟩ (fun hw74 => bN rfl rfl (by omega)) rfl (a9 [(1, _)] (ad rfl rfl rfl hgc6) ⟨bB rfl, trivial⟩ (fun hw75 => ak aB rfl bm (by decide) rfl) rfl (a9 [(91, _)] (ad rfl rfl rfl hgc6) ⟨ag rfl, trivial⟩ (fun hw76 => ak aC rfl am (by decide) rfl) rfl ?_))))))))
 refine a9 [(92, _)] (ad rfl rfl rfl hgc6) ⟨ag rfl, trivial⟩ (fun hw77 => ae aw rfl hb1 rfl) rfl (a9 [(93, _)] (ad rfl rfl rfl hgc6) ⟨ag rfl, trivial⟩ (fun hw78 => ay aA rfl (by first | assumption | exact Own.rd ‹_› | exact Rd.oC ‹_› hB | exact Own.rd (Own.oC ‹_› hB))) rfl (a9 [(90, _), (94, _)] (ad rfl rfl rfl hgc6) ⟨ag rfl, ag rfl, trivial⟩ (fun hw79 => bN rfl rfl (by omega)) rfl (a9 [(1, _)] (ad rfl rfl rfl hgc6) ⟨bB rfl, trivial⟩ (fun hw80 => ak aB rfl bm (by decide) rfl) rfl (a9 [(96, _)] (ad rfl rfl rfl hgc6) ⟨ag rfl, trivial⟩ (fun hw81 => ak aC rfl am (by decide) rfl) rfl (a9 [(97, _)] (ad rfl rfl rfl hgc6) ⟨ag rfl, trivial⟩ (fun hw82 => ae aw rfl hb1 rfl) rfl (a9 [(98, _)] (ad rfl rfl rfl hgc6) ⟨ag rfl, trivial⟩ (fun hw83 => ay aA rfl (by first | assumption | exact Own.rd ‹_› | exact Rd.oC ‹_› hB | exact Own.rd (Own.oC ‹_› hB))) rfl (a9 [(95, _), (99, _)] (ad rfl rfl rfl hgc6) ⟨ag rfl, ag rfl, trivial⟩ (fun hw84 => bN rfl rfl (by omega)) rfl (a9 [(100, _)] (ad rfl rfl rfl hgc6) ⟨ag rfl, trivial⟩ (fun hw85 => bE rfl rfl) rfl ?_))))))))
 refine a7 (bM rfl rfl hgc6) rfl (ogm rfl rfl (aq 103 true rfl (fun c7 hgc7 => a9 [(1, _)] (ad rfl rfl rfl hgc7) ⟨bB rfl, trivial⟩ (fun hw86 => ak aB rfl bm (by decide) rfl) rfl (a9 [(104, _)] (ad rfl rfl rfl hgc7) ⟨ag rfl, trivial⟩ (fun hw87 => ak aC rfl bh (by decide) rfl) rfl (a9 [(105, _)] (ad rfl rfl rfl hgc7) ⟨ag rfl, trivial⟩ (fun hw88 => ae cY rfl hb1 rfl) rfl (a9 [(106, _)] (ad rfl rfl rfl hgc7) ⟨ag rfl, trivial⟩ (fun hw89 => bE rfl rfl) rfl (a7 (bM rfl rfl hgc7) rfl (oga rfl rfl (a6 (af [(2, _)] ⟨rfl, trivial⟩ (al hfin Try.results92 rfl ?_)))))))))))
 refine ⟨congrArg Value.bool ?_, hB⟩
 unfold zeroP zeroN
 rw [Bool.eq_iff_iff]; simp only [Bool.and_eq_true, decide_eq_true_eq]
 omega
theorem ke (u : P15) (x : Pr) (w : World) (h : PrRd w u x) (t : PrLen x) : Rets Try.prog 92 [.agg (u.cells x).toArray] w (fun r w' => r = .bool (zeroP x) ∧ Keep [] w w') := lZ u.i u.e u.s u.n u.h u.g u.gg u.e2 u.s2 u.n2 u.h2 u.g2 u.y1 u.y2 u.y3 x w h.i h.e h.s h.n h.h h.g h.gg h.e2 h.s2 h.n2 h.h2 h.g2 h.y1 h.y2 h.y3 t.i t.e t.s t.n t.h t.g t.gg t.e2 t.s2 t.n2 t.h2 t.g2 t.y1 t.y2 t.y3
abbrev SlB (w : World) (lo : Nat) (v : Value) (ls : List (List UInt8)) : Prop := SlL w lo 22 v ls
theorem dQ (v : Value) (ls : List (List UInt8)) (lo : Nat) (w : World) (h : SlB w lo v ls) (hsum : (vecs ls).length ≤ 140737488355328 ∨ ls.length ≤ 1000) : Rets Try.prog 53 [v] w (fun u w' => OwnB w' w.heap.size u (vecsB ls) ∧ Keep [] w w') := by
 have hB : Keep [] w w := Keep.refl _ _
 obtain ⟨us, h1, h2, h3⟩ := h
 replace h3 := h3.rd
 rw [← h1] at h3
 refine ai Try.func53 rfl (by decide) Try.ntmps53 rfl (fun fin _ hfin => a5 (aZ (oga rfl rfl (a6 (a5 (aZ (ogm rfl rfl (ah (ab (vs := [_]) rfl (eW _ us ls _ (Rd.oC h3 hB) (RdL.oC h2 hB) hsum)) rfl ?_))))))))
 rintro _ w1 ⟨v1, rfl, o1, k1⟩
 replace hB := hB.trans k1
 refine ogm rfl rfl (a7 (bH (vs := [_, _]) rfl rfl) rfl (a7 (bH (vs := [_, _]) rfl rfl) rfl (oga rfl rfl (oga rfl rfl (a6 (a5 (aZ (ogm rfl rfl (oga rfl rfl (a6 (al hfin Try.results53 rfl ?_)))))))))))
 exact ⟨‹OwnB _ _ _ _›.lo (Nat.le_refl _), hB⟩
theorem gF (v : Value) (ls : List (List UInt8)) (lo : Nat) (w : World) (h : SlB w lo v ls) (hsum : (vecs ls).length ≤ 140737488355328) : Rets Try.prog 53 [v] w (fun u w' => OwnB w' w.heap.size u (vecsB ls) ∧ Keep [] w w') := dQ v ls lo w h (.inl hsum)
theorem lw (v u : Value) (xs ys : List UInt8) (w : World) (hv : RdB w v xs) (hu : RdB w u ys) : Rets Try.prog 41 [v, u] w (fun r w' => r = .bool (decide (xs = ys)) ∧ w = w') := by
 refine ai Try.func41 rfl (by decide) Try.ntmps41 rfl (fun fin _ hfin => a5 (aZ (oga rfl rfl (a6 (a5 (aZ (ogm rfl rfl (a7 (br aA aG aI rfl (by first | assumption | exact Own.rd ‹_› | exact Rd.oC ‹_› hB | exact Own.rd (Own.oC ‹_› hB))) rfl (ogm rfl rfl (a7 (br aA aG aI rfl (by first | assumption | exact Own.rd ‹_› | exact Rd.oC ‹_› hB | exact Own.rd (Own.oC ‹_› hB))) rfl (a7 (eA rfl rfl) rfl (oga rfl rfl (a6 (al hfin Try.results41 rfl ?_))))))))))))))
 exact ⟨rfl, rfl⟩
theorem im {x : Tri} (h : triOk x = true) : vecsB [x.1, x.2.1, x.2.2] = triB x := by
 obtain ⟨h1, h2, h3⟩ := fT.1 h
 unfold vecsB
 rw [if_pos (by intro y hy; simp only [List.mem_cons, List.not_mem_nil, or_false] at hy; rcases hy with rfl | rfl | rfl <;> omega)]
 simp [vecs, triB]
theorem mB {a b c : List UInt8} (h1 : a.length ≤ 65536) (h2 : b.length ≤ 65536) (h3 : c.length ≤ 65536) : (vecs [a, b, c]).length ≤ 140737488355328 := by
 have e1 := av a.length; have e2 := av b.length; have e3 := av c.length
 simp only [vecs, vec, List.flatMap_cons, List.flatMap_nil, List.append_nil, List.length_append]; omega
theorem mC {a b : List UInt8} (h1 : a.length ≤ 65536) (h2 : b.length ≤ 65536) : (vecs [a, b]).length ≤ 140737488355328 := by
 have e1 := av a.length; have e2 := av b.length
 simp only [vecs, vec, List.flatMap_cons, List.flatMap_nil, List.append_nil, List.length_append]; omega
theorem l6 {a b : List UInt8} (h1 : a.length ≤ 65536) (h2 : b.length ≤ 65536) : vecsB [a, b] = vec a ++ vec b := by
 unfold vecsB
 rw [if_pos (by intro y hy; simp only [List.mem_cons, List.not_mem_nil, or_false] at hy; rcases hy with rfl | rfl <;> omega)]
 simp [vecs]
theorem ng (sv iv : Value) (ss : List Tri) (info : List UInt8) (w : World) (hs : RdT w sv ss) (hi : RdB w iv info) (hsm : ∀ x ∈ ss, x.1.length ≤ 140737488351232 ∧ x.2.1.length ≤ 140737488351232 ∧ x.2.2.length ≤ 140737488351232) : Rets Try.prog 94 [.agg [sv, iv].toArray] w (fun v w' => ∃ u, v = .tuple #[u, .int .i64 (welE ss info)] ∧ OwnB w' w.heap.size u (welB ss info) ∧ Keep [] w w') := by
  have hB : Keep [] w w := Keep.refl _ _
  obtain ⟨css, hEl, hsl⟩ := hs
  refine ai Try.func94 rfl (by decide) Try.ntmps94 rfl (fun fin _ hfin => a5 (aZ (ah (bc (cs := [sv, iv]) rfl rfl) rfl ?_)))
  rintro _ w1 ⟨b1, rfl, eb1, hb1, k1, z1⟩
  have ge_b1 : w.heap.size ≤ b1 := by have := hB.size; omega
  replace hB := hB.trans k1
  clear eb1 z1
  refine oga rfl rfl (oga rfl rfl (a6 (a5 (a5 (aZ (a7 (az 0 aV rfl ip (by decide) rfl rfl) rfl (a7 (ae l9 rfl hb1 rfl) rfl (a7 (ay aY rfl (by first | assumption | exact Own.rd (by assumption) | exact Rd.oC (by assumption) hB | exact Own.rd (Own.oC (by assumption) hB))) rfl ?_))))))))
  refine a7 (cN rfl rfl) rfl (ogm rfl rfl (aq 12 false rfl (fun c1 hgc1 => a9 [(1, _)] (ad rfl rfl rfl hgc1) ⟨bB rfl, trivial⟩ (fun hw1 => az 0 aV rfl ip (by decide) rfl rfl) rfl (a9 [(13, _)] (ad rfl rfl rfl hgc1) ⟨ag rfl, trivial⟩ (fun hw2 => ae l9 rfl hb1 rfl) rfl (a9 [(14, _)] (ad rfl rfl rfl hgc1) ⟨ag rfl, trivial⟩ (fun hw3 => ay aY rfl (by first | assumption | exact Own.rd (by assumption) | exact Rd.oC (by assumption) hB | exact Own.rd (Own.oC (by assumption) hB))) rfl (a9 [(15, _)] (ad rfl rfl rfl hgc1) ⟨ag rfl, trivial⟩ (fun hw4 => dK rfl rfl) rfl (a7 (bP rfl rfl hgc1) rfl (ogm rfl rfl ?_))))))))
  refine aq 18 false rfl (fun c2 hgc2 => a9 [(1, _)] (ad rfl rfl rfl hgc2) ⟨bB rfl, trivial⟩ (fun hw5 => az 1 aV rfl am (by decide) rfl rfl) rfl (a9 [(19, _)] (ad rfl rfl rfl hgc2) ⟨ag rfl, trivial⟩ (fun hw6 => ae aw rfl hb1 rfl) rfl (a9 [(20, _)] (ad rfl rfl rfl hgc2) ⟨ag rfl, trivial⟩ (fun hw7 => ay aA rfl (by first | assumption | exact Own.rd (by assumption) | exact Rd.oC (by assumption) hB | exact Own.rd (Own.oC (by assumption) hB))) rfl (a9 [(21, _)] (ad rfl rfl rfl hgc2) ⟨ag rfl, trivial⟩ (fun hw8 => dK rfl rfl) rfl (a7 (bP rfl rfl hgc2) rfl (a6 (af [(1, _), (23, _)] ⟨rfl, rfl, trivial⟩ (bD rfl (fun hc1 => ?_) (fun hc1 => ?_)))))))))
  · -- yes
    have hd1 := hc1
    try (simp only [Bool.and_eq_true, Bool.or_eq_true, decide_eq_true_eq, Bool.and_eq_false_iff, Bool.or_eq_false_iff, decide_eq_false_iff_not, Bool.not_eq_true', Bool.not_eq_false', Bool.not_eq_true, Bool.not_eq_false, ne_eq, Decidable.not_not, decide_true, decide_false, Bool.true_and, Bool.false_and, Bool.or_false, Bool.false_or, not_true_eq_false, false_or, or_false, true_and, and_true, not_false_eq_true, reduceCtorEq] at hd1)
    refine a5 (aZ (oga rfl rfl (oga rfl rfl (a6 (bO hfin Try.results94 rfl rfl ?_)))))
    have hbad : welOk ss info = false := bad_len (by omega)
    exact ⟨_, by unfold welE; rw [hbad]; rfl, by unfold welB; rw [hbad]; exact a8 _ _ _ _, hB⟩
  · -- no
    have hd2 := hc1
    try (simp only [Bool.and_eq_true, Bool.or_eq_true, decide_eq_true_eq, Bool.and_eq_false_iff, Bool.or_eq_false_iff, decide_eq_false_iff_not, Bool.not_eq_true', Bool.not_eq_false', Bool.not_eq_true, Bool.not_eq_false, ne_eq, Decidable.not_not, decide_true, decide_false, Bool.true_and, Bool.false_and, Bool.or_false, Bool.false_or, not_true_eq_false, false_or, or_false, true_and, and_true, not_false_eq_true, reduceCtorEq] at hd2)
    refine aj (a5 (aZ (oga rfl rfl (a6 (a5 (aZ (oga rfl rfl (a6 ?_))))))))
    refine a5 (a5 (aZ (a7 (az 0 aV rfl ip (by decide) rfl rfl) rfl (a7 (ae l9 rfl hb1 rfl) rfl (a7 (ay aY rfl (by first | assumption | exact Own.rd (by assumption) | exact Rd.oC (by assumption) hB | exact Own.rd (Own.oC (by assumption) hB))) rfl (ogm rfl rfl (a6 (bA ?_))))))))
    refine cO (Γ := Nat × Value) (fun ⟨i, o⟩ => [(1, .pointer (some ⟨b1, 0, none⟩)), (4, .int .i64 (triN (ss.take i) : Int)), (5, o), (25, sv), (26, .int .i64 (ss.length : Int)), (27, .int .i64 (i : Int))]) (fun ⟨i, o⟩ W => i ≤ ss.length ∧ (ss.take i).all triOk = true ∧ triN (ss.take i) ≤ 60000 ∧ OwnB W (b1 + 1) o ((ss.take i).flatMap triB) ∧ Bk W b1 110 [sv, iv] ∧ Keep [] w W) (fun ⟨i, o⟩ => ss.length - i) ⟨0, .slice none 0 0⟩ ⟨rfl, rfl, rfl, rfl, rfl, rfl, trivial⟩ (⟨by omega, by simp, by simp [triN], a8 _ _ _ _, hb1, hB⟩) ?_
    rintro ⟨i, o⟩ w2 ⟨hi0, hall, htot, ow, hbx1, hB⟩
    refine af [(1, .pointer (some ⟨b1, 0, none⟩)), (4, .int .i64 (triN (ss.take i) : Int)), (5, o), (25, sv), (26, .int .i64 (ss.length : Int)), (27, .int .i64 (i : Int))] ⟨rfl, rfl, rfl, rfl, rfl, rfl, trivial⟩ (a5 (aZ (a7 (cN rfl rfl) rfl (a6 (a5 (bF rfl (fun hc2 => ?_) (fun hc2 => ?_)))))))
    · -- yes
      refine aj (a5 (bA (a5 (aZ ?_))))
      obtain ⟨x, r, e, b, hx, hd, hr, he, hb0⟩ := tri_at hEl (i := i) (by omega)
      have hxs := hsm x (List.mem_of_getElem? hx)
      refine a7 (eF aY hU rfl (by first | assumption | exact Own.rd (by assumption) | exact Rd.oC (by assumption) hB | exact Own.rd (Own.oC (by assumption) hB)) rfl (by omega)) rfl (a7 (jd (cs' := [r, e, b]) ag141 hU rfl (Rd.oC hsl hB) hd rfl (by decide)) rfl (ah (bG hU) rfl ?_))
      rintro _ w3 ⟨b2, rfl, eb2, hb2, k2, z2⟩
      have ge_b2 : w.heap.size ≤ b2 := by have := hB.size; omega
      have sb_b2_ow := fun x hx => (show x ≠ b2 from by have := (ow.blk x hx).2; omega)
      have ne_b1_b2 : b1 ≠ b2 := by have := hbx1.lt; omega
      replace ow := ow.oC k2
      obtain ⟨hB, hbx1⟩ := bX k2 hB hbx1
      clear eb2 z2
      refine an (bK hU rfl rfl rfl (by simp only [List.forall_mem_cons]; refine ⟨(by first | rfl | exact Rd.one (by first | assumption | exact Own.rd (by assumption) | exact Rd.oC (by assumption) hB | exact Own.rd (Own.oC (by assumption) hB))), (by first | rfl | exact Rd.one (by first | assumption | exact Own.rd (by assumption) | exact Rd.oC (by assumption) hB | exact Own.rd (Own.oC (by assumption) hB))), (by first | rfl | exact Rd.one (by first | assumption | exact Own.rd (by assumption) | exact Rd.oC (by assumption) hB | exact Own.rd (Own.oC (by assumption) hB))), fun v hv => by cases hv⟩) hb2 rfl) ?_
      rintro _ w4 ⟨hb3, k3, z3⟩
      replace ow := ow.keep k3 (fun x hx hm => sb_b2_ow x hx (List.mem_singleton.1 hm))
      replace hbx1 := hbx1.keep k3 (nm ne_b1_b2)
      replace hB := hB.new k3 (nw ge_b2)
      clear z3
      replace hb3 : Bk w4 b2 _ [r, e, b] := hb3
      refine a6 (a5 (a5 (aZ (ogm rfl rfl (a7 (az 2 aW rfl am (by decide) rfl rfl) rfl (a7 (ae aw rfl hb3 rfl) rfl (a7 (ay aA rfl (by first | assumption | exact Own.rd (by assumption) | exact Rd.oC (by assumption) hB | exact Own.rd (Own.oC (by assumption) hB))) rfl (a7 (bN rfl rfl (by omega)) rfl ?_))))))))
      have hnt := mG hx
      refine a7 (v := .int .i64 (triN (ss.take (i + 1)) : Int)) (by rw [show ((triN (ss.take (i + 1)) : Nat) : Int) = (triN (ss.take i) : Int) + (70 + (x.2.2.length : Int)) by omega]; exact bN rfl rfl (by omega)) rfl (oga rfl rfl (a6 (a5 (aZ (a7 (az 0 aW rfl am (by decide) rfl rfl) rfl (a7 (ae aw rfl hb3 rfl) rfl (a7 (ay aA rfl (by first | assumption | exact Own.rd (by assumption) | exact Rd.oC (by assumption) hB | exact Own.rd (Own.oC (by assumption) hB))) rfl (a7 (bn rfl rfl) rfl ?_))))))))
      refine ogm rfl rfl (aq 41 false rfl (fun c3 hgc3 => a9 [(7, _)] (ad rfl rfl rfl hgc3) ⟨bB rfl, trivial⟩ (fun hw9 => az 1 aW rfl am (by decide) rfl rfl) rfl (a9 [(42, _)] (ad rfl rfl rfl hgc3) ⟨ag rfl, trivial⟩ (fun hw10 => ae aw rfl hb3 rfl) rfl (a9 [(43, _)] (ad rfl rfl rfl hgc3) ⟨ag rfl, trivial⟩ (fun hw11 => ay aA rfl (by first | assumption | exact Own.rd (by assumption) | exact Rd.oC (by assumption) hB | exact Own.rd (Own.oC (by assumption) hB))) rfl (a9 [(44, _)] (ad rfl rfl rfl hgc3) ⟨ag rfl, trivial⟩ (fun hw12 => bn rfl rfl) rfl (a7 (bP rfl rfl hgc3) rfl (ogm rfl rfl (aq 47 false rfl (fun c4 hgc4 => ?_)))))))))
      refine a9 [(7, _)] (ad rfl rfl rfl hgc4) ⟨bB rfl, trivial⟩ (fun hw13 => az 2 aW rfl am (by decide) rfl rfl) rfl (a9 [(48, _)] (ad rfl rfl rfl hgc4) ⟨ag rfl, trivial⟩ (fun hw14 => ae aw rfl hb3 rfl) rfl (a9 [(49, _)] (ad rfl rfl rfl hgc4) ⟨ag rfl, trivial⟩ (fun hw15 => ay aA rfl (by first | assumption | exact Own.rd (by assumption) | exact Rd.oC (by assumption) hB | exact Own.rd (Own.oC (by assumption) hB))) rfl (a9 [(50, _)] (ad rfl rfl rfl hgc4) ⟨ag rfl, trivial⟩ (fun hw16 => dK rfl rfl) rfl (a7 (bP rfl rfl hgc4) rfl (ogm rfl rfl (aq 53 false rfl (fun c5 hgc5 => a9 [(4, _)] (ad rfl rfl rfl hgc5) ⟨bB rfl, trivial⟩ (fun hw17 => bC rfl) rfl (a9 [(54, _)] (ad rfl rfl rfl hgc5) ⟨ag rfl, trivial⟩ (fun hw18 => dK rfl rfl) rfl ?_))))))))
      refine a7 (bP rfl rfl hgc5) rfl (a6 (af [(1, _), (4, _), (5, _), (25, _), (26, _), (27, _), (7, _), (56, _)] ⟨rfl, rfl, rfl, rfl, rfl, rfl, rfl, rfl, trivial⟩ (bD rfl (fun hc3 => ?_) (fun hc3 => ?_))))
      · -- yes
        have hd3 := hc3
        try (simp only [Bool.and_eq_true, Bool.or_eq_true, decide_eq_true_eq, Bool.and_eq_false_iff, Bool.or_eq_false_iff, decide_eq_false_iff_not, Bool.not_eq_true', Bool.not_eq_false', Bool.not_eq_true, Bool.not_eq_false, ne_eq, Decidable.not_not, decide_true, decide_false, Bool.true_and, Bool.false_and, Bool.or_false, Bool.false_or, not_true_eq_false, false_or, or_false, true_and, and_true, not_false_eq_true, reduceCtorEq] at hd3)
        refine a5 (aZ (oga rfl rfl (oga rfl rfl (a6 (bO hfin Try.results94 rfl rfl ?_)))))
        have hbad : welOk ss info = false := by
          by_cases hok : triOk x = true
          · exact bad_sum (i + 1) (by have := fT.1 hok; omega)
          · exact bad_at hx (by simpa using hok)
        exact ⟨_, by unfold welE; rw [hbad]; rfl, by unfold welB; rw [hbad]; exact a8 _ _ _ _, hB⟩
      · -- no
        have hd4 := hc3
        try (simp only [Bool.and_eq_true, Bool.or_eq_true, decide_eq_true_eq, Bool.and_eq_false_iff, Bool.or_eq_false_iff, decide_eq_false_iff_not, Bool.not_eq_true', Bool.not_eq_false', Bool.not_eq_true, Bool.not_eq_false, ne_eq, Decidable.not_not, decide_true, decide_false, Bool.true_and, Bool.false_and, Bool.or_false, Bool.false_or, not_true_eq_false, false_or, or_false, true_and, and_true, not_false_eq_true, reduceCtorEq] at hd4)
        refine aj (aZ ?_)
        have hok : triOk x = true := fT.2 (by omega)
        have hfl := gK hall
        have htl := jp hok
        have hvl : (vecsB [x.1, x.2.1, x.2.2]).length ≤ 30070 := by rw [im hok]; omega
        refine ogm rfl rfl (a7 (az 0 aW rfl am (by decide) rfl rfl) rfl (a7 (ae aw rfl hb3 rfl) rfl (a7 (az 1 aW rfl am (by decide) rfl rfl) rfl (a7 (ae aw rfl hb3 rfl) rfl (a7 (az 2 aW rfl am (by decide) rfl rfl) rfl (a7 (ae aw rfl hb3 rfl) rfl (ah (cf (m := 3) (ls := [x.1, x.2.1, x.2.2]) (xs := [.tmp 59, .tmp 61, .tmp 63]) (us := [_, _, _]) aJ am rfl rfl (bL (by first | exact Rd.nil _ _ | exact (by first | assumption | exact Own.rd (by assumption) | exact Rd.oC (by assumption) hB | exact Own.rd (Own.oC (by assumption) hB))) (bL (by first | exact Rd.nil _ _ | exact (by first | assumption | exact Own.rd (by assumption) | exact Rd.oC (by assumption) hB | exact Own.rd (Own.oC (by assumption) hB))) (bL (by first | exact Rd.nil _ _ | exact (by first | assumption | exact Own.rd (by assumption) | exact Rd.oC (by assumption) hB | exact Own.rd (Own.oC (by assumption) hB))) (bb _)))) rfl rfl) rfl ?_)))))))
        rintro v1 w5 ⟨sl1, k4⟩
        replace ow := ow.oC k4
        obtain ⟨hB, hbx1, hb3⟩ := cS k4 hB hbx1 hb3
        refine ah (ab (vs := [_]) rfl (gF _ _ _ _ (by assumption) (mB (by omega) (by omega) (by omega)))) rfl ?_
        rintro v2 w6 ⟨o2, k5⟩
        have gl_o2 := hB.size
        replace ow := ow.oC k5
        obtain ⟨hbx1, hb3⟩ := cm k5 hbx1 hb3
        replace sl1 := sl1.oC k5
        replace hB := hB.trans k5
        have lt_o3 := hbx1.lt
        refine ah (bW aA cT rfl ow rfl (show RdB _ _ _ from o2.rd) (by first | omega | (simp only [List.length_append] at *; omega)) (by omega)) rfl ?_
        rintro v3 w7 ⟨o3, k6, lb1, _⟩
        replace hB := hB.new k6 (fun x hx => .inl (Nat.le_trans ge_b1 (Nat.le_of_lt (ow.blk x hx).1)))
        replace hbx1 := hbx1.keep k6 (fun hm => absurd (ow.blk _ hm).1 (Nat.lt_irrefl _))
        refine oga rfl rfl (a6 (af [(1, _), (4, _), (5, _), (25, _), (26, _), (27, _)] ⟨rfl, rfl, rfl, rfl, rfl, rfl, trivial⟩ (cG (aZ (a7 (bN rfl rfl (by omega)) rfl (ogm rfl rfl (a6 (cP (Γ := Nat × Value) ⟨i + 1, v3⟩ ⟨rfl, rfl, rfl, rfl, rfl, rfl, trivial⟩ (by (try dsimp only); omega) (⟨by omega, oA hx hall hok, by omega, by have hh := o3; unfold OwnB; rw [mm hx, ← im hok, List.length_append]; exact hh, hbx1, hB⟩)))))))))
    · -- no
      refine bd rfl (a5 (aZ ?_))
      have hfl := gK hall
      refine ogm rfl rfl (a7 (az 1 aV rfl am (by decide) rfl rfl) rfl (a7 (ae aw rfl hbx1 rfl) rfl (ah (cf (m := 2) (ls := [(ss.take i).flatMap triB, info]) (xs := [.tmp 68, .tmp 70]) (us := [_, _]) aJ am rfl rfl (bL (by first | exact Rd.nil _ _ | exact (by first | assumption | exact Own.rd (by assumption) | exact Rd.oC (by assumption) hB | exact Own.rd (Own.oC (by assumption) hB))) (bL (by first | exact Rd.nil _ _ | exact (by first | assumption | exact Own.rd (by assumption) | exact Rd.oC (by assumption) hB | exact Own.rd (Own.oC (by assumption) hB))) (bb _))) rfl rfl) rfl ?_)))
      rintro v4 w8 ⟨sl2, k7⟩
      replace ow := ow.oC k7
      obtain ⟨hB, hbx1⟩ := bX k7 hB hbx1
      refine ah (ab (vs := [_]) rfl (gF _ _ _ _ (by assumption) (mC (by omega) (by omega)))) rfl ?_
      rintro v5 w9 ⟨o5, k8⟩
      have gl_o5 := hB.size
      replace ow := ow.oC k8
      replace sl2 := sl2.oC k8
      replace hB := hB.trans k8
      refine oga rfl rfl (oga rfl rfl (a6 (af [(2, _), (3, _)] ⟨rfl, rfl, trivial⟩ (bO hfin Try.results94 rfl rfl ?_))))
      have e : ss.take i = ss := List.take_of_length_le (by omega)
      rw [e] at hall htot
      have hfl2 := gK hall
      have hgood := ni (info := info) (by omega) (by omega) (by omega) hall htot
      have hh := o5
      rw [e, l6 (by omega) (by omega)] at hh
      exact ⟨_, by unfold welE; rw [hgood]; rfl, by unfold welB; rw [hgood]; exact hh.lo gl_o5, hB⟩
end Go.Proofs.Ytonchmcppekldaa.W
namespace Go.Eng
open Go
def apJ (w0 : World) (lo : Nat) (t8 tb : TypeId) (l : Value) (ls : List UInt8) (c : UInt8) (r : Value) (L : Nat → Bool) (vs : Nat → Value) (w : World) : Prop :=
 Keep (Eng.vblk l) w0 w ∧ (L 2 = false → Own w lo t8 1 l ls.length (bv ls)) ∧
 (L 1 = true → RdB w (vs 1) [c] ∧ ∀ y, y ∈ Eng.vblk (vs 1) → w0.heap.size ≤ y) ∧
 (L 2 = true → Own w lo t8 1 (vs 2) (ls.length + 1) (bv (ls ++ [c])) ∧ ∀ y, y ∈ Eng.vblk (vs 2) → y ∈ Eng.vblk l ∨ w0.heap.size ≤ y) ∧
 (L 5 = true → Own w w0.heap.size tb 1 (vs 5) 1 [r])
theorem apJ_0 {w0 : World} {lo : Nat} {t8 tb : TypeId} {l : Value} {ls : List UInt8} {c : UInt8} {r : Value} (ho : Own w0 lo t8 1 l ls.length (bv ls)) (vs : Nat → Value) : apJ w0 lo t8 tb l ls c r (fun _ => false) vs w0.drew :=
  ⟨(bt _).weak, fun _ => ho.oC (bt _), (fun h => absurd (show false = true from h) Bool.false_ne_true), (fun h => absurd (show false = true from h) Bool.false_ne_true), (fun h => absurd (show false = true from h) Bool.false_ne_true)⟩
section
variable {w0 w w' : World} {lo : Nat} {t8 tb : TypeId} {l : Value} {ls : List UInt8} {c : UInt8} {r : Value} {L : Nat → Bool} {vs vs' : Nat → Value}
theorem apJ.same (h : apJ w0 lo t8 tb l ls c r L vs w) (h1 : L 1 = true → vs 1 = vs' 1) (h2 : L 2 = true → vs 2 = vs' 2) (h5 : L 5 = true → vs 5 = vs' 5) : apJ w0 lo t8 tb l ls c r L vs' w :=
 ⟨h.1, h.2.1, fun g => by rw [← h1 g]; exact h.2.2.1 g, fun g => by rw [← h2 g]; exact h.2.2.2.1 g, fun g => by rw [← h5 g]; exact h.2.2.2.2 g⟩
theorem apJ.bs1 {v : Value} (h : apJ w0 lo t8 tb l ls c r L vs w) (k : Keep [] w w') (hr : RdB w' v [c]) (hb : ∀ y, y ∈ Eng.vblk v → w.heap.size ≤ y) : apJ w0 lo t8 tb l ls c r (updL L 1) (updV vs 1 v) w' :=
 ⟨h.1.trans k.weak, fun g => (h.2.1 g).oC k, fun _ => ⟨hr, fun y hy => Nat.le_trans h.1.size (hb y hy)⟩, fun g => ⟨(h.2.2.2.1 g).1.oC k, (h.2.2.2.1 g).2⟩, fun g => (h.2.2.2.2 g).oC k⟩
theorem apJ.app {v : Value} (h : apJ w0 lo t8 tb l ls c r L vs w) (hl : ∀ y, y ∈ Eng.vblk l → y < w0.heap.size) (o : Own w' lo t8 1 v (ls.length + 1) (bv (ls ++ [c]))) (k : Keep (Eng.vblk l) w w') (lb : ∀ x, x ∈ Eng.vblk v → x ∈ Eng.vblk l ∨ w.heap.size ≤ x) : apJ w0 lo t8 tb l ls c r (updL L 2) (updV vs 2 v) w' :=
 ⟨h.1.trans k, (fun g => absurd (show true = false from g) (by decide)), fun g => ⟨(h.2.2.1 g).1.keep k (fun x hx hm => by have h1 := (h.2.2.1 g).2 x hx; have h2 := hl x hm; omega), (h.2.2.1 g).2⟩,
   fun _ => ⟨o, fun y hy => (lb y hy).imp id (fun h9 => Nat.le_trans h.1.size h9)⟩, fun g => (h.2.2.2.2 g).keep k (fun x hx hm => by have h1 := ((h.2.2.2.2 g).blk x hx).1; have h2 := hl x hm; omega)⟩
theorem apJ.bs5 {v : Value} (h : apJ w0 lo t8 tb l ls c r L vs w) (k : Keep [] w w') (o : Own w' w.heap.size tb 1 v 1 [r]) : apJ w0 lo t8 tb l ls c r (updL L 5) (updV vs 5 v) w' :=
 ⟨h.1.trans k.weak, fun g => (h.2.1 g).oC k, fun g => ⟨(h.2.2.1 g).1.oC k, (h.2.2.1 g).2⟩, fun g => ⟨(h.2.2.2.1 g).1.oC k, (h.2.2.2.1 g).2⟩, fun _ => o.lo h.1.size⟩
end
theorem lV {P : Program} {n : NN} {f : Fr} {w : World} {ty : TypeId} {x : Operand} {t : TypeId} {zs : List Value} {s0 s b m i : Nat} {v : Value} {cs cs' : List Value} (ht : agB P t = true) (hs : Ty P t zs s b) (hx : f.ev x = some (.pointer (some (ea v i))))
   (hr : Rd w s0 v m cs) (hc : (cs.drop i).take s = cs') (hl : cs'.length = s) (h0 : 0 < s) :
   Gives P n f w (.load t x) ty (.agg cs'.toArray) w := by
 refine np ht hs hx ?_ hl
 obtain ⟨A, c, rfl, h1, h2, h3, h4, h5⟩ := hr
 cases A with
 | none =>
   have h6 := h4 rfl
   have : cs = [] := by apply List.eq_nil_of_length_eq_zero; rw [h3]; have : m = 0 := by omega
                        rw [this, Nat.zero_mul]
   subst this; subst hc; simp at hl; omega
 | some a0 => subst hc; exact ((h5 a0 rfl).drop i).take s
end Go.Eng
namespace Go.Proofs.Ytonchmcppekldaa.W
open Go Go.Eng Go.Byt
theorem nO (b : Bool) : decide ((bif b then (0 : Int) else 1) = 0) = b := by cases b <;> rfl
theorem jh {a : List UInt8} (h : a.length ≤ 65536) : vecsB [a] = vec a ∧ (vecsB [a]).length ≤ a.length + 4 := by
 have e : vecsB [a] = vec a := by
   unfold vecsB
   rw [if_pos (by intro y hy; simp only [List.mem_cons, List.not_mem_nil, or_false] at hy; subst hy; omega)]
   simp [vecs]
 refine ⟨e, ?_⟩
 have := av a.length
 rw [e]; unfold vec; rw [List.length_append]; omega
theorem fV {w : World} {lo : Nat} {v : Value} {xs ys zs : List UInt8} (h : Own w lo 5 1 v (xs.length + ys.length) (bv (xs ++ ys))) (e : xs ++ ys = zs) : OwnB w lo v zs := by
 subst e; unfold OwnB; rw [List.length_append]; exact h
theorem dO {w : World} {lo : Nat} {v : Value} {xs zs : List UInt8} (h : OwnB w lo v xs) (e : xs = zs) : OwnB w lo v zs := e ▸ h
theorem it_yes {x : It} (h : (decide ((x.1.length : Int) = 32) && zeroP x.2) = true) : itOk x = true ∧ x.1.length = 32 := by
 rw [Bool.and_eq_true, decide_eq_true_eq] at h
 have h1 : x.1.length = 32 := by omega
 exact ⟨by unfold itOk; simp [h1, h.2], h1⟩
theorem it_val {x : It} (h : (decide ((x.1.length : Int) = 0) && decide ((bif prOk x.2 then (0 : Int) else 1) = 0)) = true) : itOk x = true ∧ x.1.length = 0 ∧ prOk x.2 = true := by
 rw [nO, Bool.and_eq_true, decide_eq_true_eq] at h
 have h1 : x.1.length = 0 := by omega
 exact ⟨by unfold itOk; rw [decide_eq_true h1, h.2]; simp, h1, h.2⟩
theorem it_no {x : It} (h1 : (decide ((x.1.length : Int) = 32) && zeroP x.2) = false) (h2 : (decide ((x.1.length : Int) = 0) && decide ((bif prOk x.2 then (0 : Int) else 1) = 0)) = false) : itOk x = false := by
 rw [nO] at h2
 have e1 : ∀ n : Nat, decide ((x.1.length : Int) = (n : Int)) = decide (x.1.length = n) := fun n => decide_eq_decide.2 (by omega)
 have h1' := e1 32; have h2' := e1 0
 unfold itOk
 rw [← h1', ← h2']
 exact (Bool.or_eq_false_iff.2 ⟨h1, h2⟩)
theorem ll {x : It} (h : x.1.length = 32) : itB x = 2 :: vec x.1 := if_pos h
theorem lk {x : It} (h : x.1.length = 0) : itB x = 1 :: vec (prB x.2) := if_neg (by omega)
theorem eT (sv pv : Value) (ss : List It) (pa : List UInt8) (w : World) (hs : RdI w sv ss) (hp : RdB w pv pa) (hsm : ∀ x ∈ ss, x.1.length ≤ 140737488351232 ∧ PrLen x.2) : Rets Try.prog 16 [.agg [sv, pv].toArray] w (fun v w' => ∃ u, v = .tuple #[u, .int .i64 (bdE ss pa)] ∧ OwnB w' w.heap.size u (bdB ss pa) ∧ Keep [] w w') := by
  have hB : Keep [] w w := Keep.refl _ _
  obtain ⟨css, hEl, hsl⟩ := hs
  refine ai Try.func16 rfl (by decide) Try.ntmps16 rfl (fun fin _ hfin => a5 (aZ (ah (bc (cs := [sv, pv]) rfl rfl) rfl ?_)))
  rintro _ w1 ⟨b1, rfl, eb1, hb1, k1, z1⟩
  have ge_b1 : w.heap.size ≤ b1 := by have := hB.size; omega
  replace hB := hB.trans k1
  clear eb1 z1
  refine oga rfl rfl (oga rfl rfl (a6 (a5 (a5 (aZ (a7 (az 0 aP rfl fa (by decide) rfl rfl) rfl (a7 (ae jT rfl hb1 rfl) rfl (a7 (ay aR rfl (by first | assumption | exact Own.rd (by assumption) | exact Rd.oC (by assumption) hB | exact Own.rd (Own.oC (by assumption) hB))) rfl ?_))))))))
  refine a7 (dK rfl rfl) rfl (ogm rfl rfl (aq 13 false rfl (fun c1 hgc1 => a9 [(1, _)] (ad rfl rfl rfl hgc1) ⟨bB rfl, trivial⟩ (fun hw1 => az 1 aP rfl am (by decide) rfl rfl) rfl (a9 [(14, _)] (ad rfl rfl rfl hgc1) ⟨ag rfl, trivial⟩ (fun hw2 => ae aw rfl hb1 rfl) rfl (a9 [(15, _)] (ad rfl rfl rfl hgc1) ⟨ag rfl, trivial⟩ (fun hw3 => ay aA rfl (by first | assumption | exact Own.rd (by assumption) | exact Rd.oC (by assumption) hB | exact Own.rd (Own.oC (by assumption) hB))) rfl (a9 [(16, _)] (ad rfl rfl rfl hgc1) ⟨ag rfl, trivial⟩ (fun hw4 => dK rfl rfl) rfl (a7 (bP rfl rfl hgc1) rfl (a6 ?_))))))))
  refine af [(1, _), (18, _)] ⟨rfl, rfl, trivial⟩ (bD rfl (fun hc1 => ?_) (fun hc1 => ?_))
  · -- yes
    have hd1 := hc1
    try (simp only [Bool.and_eq_true, Bool.or_eq_true, decide_eq_true_eq, Bool.and_eq_false_iff, Bool.or_eq_false_iff, decide_eq_false_iff_not, Bool.not_eq_true', Bool.not_eq_false', Bool.not_eq_true, Bool.not_eq_false, ne_eq, Decidable.not_not, decide_true, decide_false, Bool.true_and, Bool.false_and, Bool.or_false, Bool.false_or, not_true_eq_false, false_or, or_false, true_and, and_true, not_false_eq_true, reduceCtorEq] at hd1)
    refine a5 (aZ (oga rfl rfl (oga rfl rfl (a6 (bO hfin Try.results16 rfl rfl ?_)))))
    have hok : bdOk ss pa = false := ny (by simp only [Bool.or_eq_true, decide_eq_true_eq] at hc1; omega)
    exact ⟨_, by unfold bdE; rw [hok]; rfl, dO (xs := []) (zs := bdB ss pa) (a8 _ _ _ _) (by simp [bdB, hok]), hB⟩
  · -- no
    have hd2 := hc1
    try (simp only [Bool.and_eq_true, Bool.or_eq_true, decide_eq_true_eq, Bool.and_eq_false_iff, Bool.or_eq_false_iff, decide_eq_false_iff_not, Bool.not_eq_true', Bool.not_eq_false', Bool.not_eq_true, Bool.not_eq_false, ne_eq, Decidable.not_not, decide_true, decide_false, Bool.true_and, Bool.false_and, Bool.or_false, Bool.false_or, not_true_eq_false, false_or, or_false, true_and, and_true, not_false_eq_true, reduceCtorEq] at hd2)
    refine aj (a5 (aZ (oga rfl rfl (a6 (a5 (a5 (aZ (a7 (az 0 aP rfl fa (by decide) rfl rfl) rfl ?_))))))))
    refine a7 (ae jT rfl hb1 rfl) rfl (a7 (ay aR rfl (by first | assumption | exact Own.rd (by assumption) | exact Rd.oC (by assumption) hB | exact Own.rd (Own.oC (by assumption) hB))) rfl (ogm rfl rfl (a6 (bA (cO (Γ := Nat × Value) (fun ⟨i, o⟩ => [(1, .pointer (some ⟨b1, 0, none⟩)), (4, o), (20, sv), (21, .int .i64 (ss.length : Int)), (22, .int .i64 (i : Int))]) (fun ⟨i, o⟩ W => i ≤ ss.length ∧ (ss.take i).all itOk = true ∧ OwnB W (b1 + 1) o ((ss.take i).flatMap itB) ∧ Bk W b1 55 [sv, pv] ∧ Keep [] w W) (fun ⟨i, o⟩ => ss.length - i) ⟨0, .slice none 0 0⟩ ⟨rfl, rfl, rfl, rfl, rfl, trivial⟩ (⟨by omega, by simp, a8 _ _ _ _, hb1, hB⟩) ?_)))))
    rintro ⟨i, o⟩ w2 ⟨hi0, hall, ow, hbx1, hB⟩
    refine af [(1, .pointer (some ⟨b1, 0, none⟩)), (4, o), (20, sv), (21, .int .i64 (ss.length : Int)), (22, .int .i64 (i : Int))] ⟨rfl, rfl, rfl, rfl, rfl, trivial⟩ ?_
    have hfl := dz hall
    rw [List.length_take] at hfl
    have hqb := fun x hx => (ow.blk x hx).2
    refine a5 (aZ (a7 (cN rfl rfl) rfl (a6 (a5 (bF rfl (fun hc2 => ?_) (fun hc2 => ?_))))))
    · -- yes
      refine aj (a5 (bA (a5 (aZ ?_))))
      obtain ⟨x, r, u, hx, hd, hr0, hu0⟩ := jG hEl (i := i) (by omega)
      have hxs := hsm x (List.mem_of_getElem? hx)
      refine a7 (eF aR dZ rfl (by first | assumption | exact Own.rd (by assumption) | exact Rd.oC (by assumption) hB | exact Own.rd (Own.oC (by assumption) hB)) rfl (by omega)) rfl (a7 (jd (cs' := [r, .int .i64 x.2.kind, u.i, u.e, u.s, u.n, .int .i64 x.2.pk.leaf.src, u.h, u.g, u.gg, u.e2, u.s2, u.n2, .int .i64 x.2.lf.src, u.h2, u.g2, .int .i64 x.2.ix, u.y1, u.y2, u.y3]) oB dZ rfl (Rd.oC hsl hB) hd rfl (by decide)) rfl (ah (bG dZ) rfl ?_))
      rintro _ w3 ⟨b2, rfl, eb2, hb2, k2, z2⟩
      have ge_b2 : w.heap.size ≤ b2 := by have := hB.size; omega
      have sb_b2_ow := fun x hx => (show x ≠ b2 from by have := (ow.blk x hx).2; omega)
      have ne_b1_b2 : b1 ≠ b2 := by have := hbx1.lt; omega
      replace ow := ow.oC k2
      obtain ⟨hB, hbx1⟩ := bX k2 hB hbx1
      clear eb2 z2
      refine an (bK dZ rfl rfl rfl (by simp only [List.forall_mem_cons]; exact ⟨hr0.one, rfl, hu0.i.one, hu0.e.one, hu0.s.one, hu0.n.one, rfl, hu0.h.one, hu0.g.one, hu0.gg.one, hu0.e2.one, hu0.s2.one, hu0.n2.one, rfl, hu0.h2.one, hu0.g2.one, rfl, hu0.y1.one, hu0.y2.one, hu0.y3.one, fun v hv => by cases hv⟩) hb2 rfl) ?_
      rintro _ w4 ⟨hb3, k3, z3⟩
      replace ow := ow.keep k3 (fun x hx hm => sb_b2_ow x hx (List.mem_singleton.1 hm))
      replace hbx1 := hbx1.keep k3 (nm ne_b1_b2)
      replace hB := hB.new k3 (nw ge_b2)
      clear z3
      replace hb3 : Bk w4 b2 _ [r, .int .i64 x.2.kind, u.i, u.e, u.s, u.n, .int .i64 x.2.pk.leaf.src, u.h, u.g, u.gg, u.e2, u.s2, u.n2, .int .i64 x.2.lf.src, u.h2, u.g2, .int .i64 x.2.ix, u.y1, u.y2, u.y3] := hb3
      refine a6 (a5 (aZ (a7 (az 1 aT rfl bz (by decide) rfl rfl) rfl (a7 (au (cs' := [_, _, _, _, _, _, _, _, _, _, _, _, _, _, _, _, _, _, _]) dY bz rfl hb3 rfl rfl) rfl (ah (ab (vs := [_]) rfl (kputP u x.2 _ (hu0.oC hB) hxs.2)) rfl ?_)))))
      rintro _ w5 ⟨u1, rfl, o1, k4⟩
      have gl_o1 := hB.size
      replace ow := ow.oC k4
      obtain ⟨hB, hbx1, hb3⟩ := cS k4 hB hbx1 hb3
      have zk2 := k2.size
      have zk3 := k3.size
      have zk4 := k4.size
      refine ogm rfl rfl (a7 (bH (vs := [_, _]) rfl rfl) rfl (a7 (bH (vs := [_, _]) rfl rfl) rfl (oga rfl rfl (oga rfl rfl (a6 (bA (a5 (aZ ?_))))))))
      refine a7 (az 0 aT rfl am (by decide) rfl rfl) rfl (a7 (ae aw rfl hb3 rfl) rfl (a7 (ay aA rfl (by first | assumption | exact Own.rd (by assumption) | exact Rd.oC (by assumption) hB | exact Own.rd (Own.oC (by assumption) hB))) rfl (a7 (bE rfl rfl) rfl (ogm rfl rfl (aq 37 true rfl (fun c2 hgc2 => a9 [(6, _)] (ad rfl rfl rfl hgc2) ⟨bB rfl, trivial⟩ (fun hw5 => az 1 aT rfl bz (by decide) rfl rfl) rfl (a9 [(38, _)] (ad rfl rfl rfl hgc2) ⟨ag rfl, trivial⟩ (fun hw6 => au (cs' := [_, _, _, _, _, _, _, _, _, _, _, _, _, _, _, _, _, _, _]) dY bz rfl hb3 rfl rfl) rfl (cC [(39, _)] (ad rfl rfl rfl hgc2) ⟨ag rfl, trivial⟩ (fun hw7 => ab (vs := [_]) rfl (mA u x.2 _ (hu0.oC hB) hxs.2)) rfl ?_))))))))
      rintro w7 k6
      replace ow := ow.oC k6
      obtain ⟨hbx1, hb3⟩ := cm k6 hbx1 hb3
      replace o1 := o1.oC k6
      replace hB := hB.trans k6
      refine a7 (bM rfl rfl hgc2) rfl (oga rfl rfl (a6 (af [(1, _), (4, _), (20, _), (21, _), (22, _), (6, _), (7, _), (8, _), (32, _)] ⟨rfl, rfl, rfl, rfl, rfl, rfl, rfl, rfl, rfl, trivial⟩ (bD rfl (fun hc3 => ?_) (fun hc3 => ?_)))))
      · -- yes
        have hd3 := hc3
        try (simp only [Bool.and_eq_true, Bool.or_eq_true, decide_eq_true_eq, Bool.and_eq_false_iff, Bool.or_eq_false_iff, decide_eq_false_iff_not, Bool.not_eq_true', Bool.not_eq_false', Bool.not_eq_true, Bool.not_eq_false, ne_eq, Decidable.not_not, decide_true, decide_false, Bool.true_and, Bool.false_and, Bool.or_false, Bool.false_or, not_true_eq_false, false_or, or_false, true_and, and_true, not_false_eq_true, reduceCtorEq] at hd3)
        have hlt9 : ∀ y, y ∈ vblk o → y < w7.heap.size := fun y hy => (ow.blk y hy).2
        have hlo9 := hbx1.lt
        refine fS 6 mixed [(1, _), (4, _), (20, _), (21, _), (22, _), (6, _), (7, _), (8, _), (32, _)] (fun jj v => match jj with | 0 => v = o | 3 => v = .pointer (some ⟨b2, 0 + 0, none⟩) | 4 => v = r | _ => True) (apJ w7 (b1 + 1) 5 22 o ((ss.take i).flatMap itB) 2 r) ⟨rfl, rfl, rfl, rfl, rfl, rfl, rfl, rfl, rfl, trivial⟩ (by decide) (by decide) rfl (fun vs => apJ_0 ow vs) (fun L vs vs' w' h hJ => hJ.same (fun h0 => h 1 h0 rfl) (fun h0 => h 2 h0 rfl) (fun h0 => h 5 h0 rfl)) ?_ ?_
        · refine ⟨?_, ?_, ?_, ?_, ?_, ?_, trivial⟩
          · refine ⟨[], rfl, ?_⟩; rintro L W1 vs hL0 hLd hJ hd
            have hk := hJ.1
            have hksz := hk.size
            replace hbx1 := hbx1.keep hk (fun hm => by have h1 := (ow.blk _ hm).1; omega)
            replace hb3 := hb3.keep hk (fun hm => sb_b2_ow _ hm rfl)
            replace hB := hB.new hk (fun y hy => .inl (Nat.le_trans ge_b1 (Nat.le_of_lt (ow.blk y hy).1)))
            refine ⟨true, fun a _ => rfl, fun _ => (aa [(4, _)] ⟨rfl, trivial⟩ ?_), fun h => by cases h⟩
            refine (Gives.does (bC rfl)).mono ?_
            rintro v W2 ⟨rfl, rfl⟩; exact ⟨rfl, hJ⟩
          · refine ⟨[], rfl, ?_⟩; rintro L W1 vs hL0 hLd hJ hd
            have hk := hJ.1
            have hksz := hk.size
            replace hbx1 := hbx1.keep hk (fun hm => by have h1 := (ow.blk _ hm).1; omega)
            replace hb3 := hb3.keep hk (fun hm => sb_b2_ow _ hm rfl)
            replace hB := hB.new hk (fun y hy => .inl (Nat.le_trans ge_b1 (Nat.le_of_lt (ow.blk y hy).1)))
            refine ⟨true, fun a _ => rfl, fun _ => (aa [] trivial ?_), fun h => by cases h⟩
            refine (de (m := 1) (xs := [.const (.int .u8 (2))]) (vs := [_]) aA cT (by decide) rfl rfl rfl (by intro v hv; rw [List.mem_singleton] at hv; subst hv; rfl) (by decide)).mono ?_
            rintro v W2 ⟨o1, _, _, k1, _⟩; exact ⟨trivial, hJ.bs1 k1 (show RdB _ _ [2] from o1.rd) (fun y hy => (o1.blk y hy).1)⟩
          · refine ⟨[0, 1], rfl, ?_⟩; rintro L W1 vs hL0 hLd hJ hd
            have d0 : vs 0 = o := hd 0 (by decide)
            have hk := hJ.1
            have hksz := hk.size
            replace hbx1 := hbx1.keep hk (fun hm => by have h1 := (ow.blk _ hm).1; omega)
            replace hb3 := hb3.keep hk (fun hm => sb_b2_ow _ hm rfl)
            replace hB := hB.new hk (fun y hy => .inl (Nat.le_trans ge_b1 (Nat.le_of_lt (ow.blk y hy).1)))
            refine ⟨true, fun a _ => rfl, fun _ => (aa [(42, o), (43, vs 1)] ⟨congrArg some d0, rfl, trivial⟩ ?_), fun h => by cases h⟩
            refine (bW aA cT rfl (hJ.2.1 hL0) rfl (hJ.2.2.1 (hLd 1 (by decide))).1 (by simp only [List.length_cons, List.length_nil]; omega) (by omega)).mono ?_
            rintro v W2 ⟨o1, k1, lb, _⟩; exact ⟨trivial, hJ.app hlt9 o1 k1 lb⟩
          · refine ⟨[], rfl, ?_⟩; rintro L W1 vs hL0 hLd hJ hd
            have hk := hJ.1
            have hksz := hk.size
            replace hbx1 := hbx1.keep hk (fun hm => by have h1 := (ow.blk _ hm).1; omega)
            replace hb3 := hb3.keep hk (fun hm => sb_b2_ow _ hm rfl)
            replace hB := hB.new hk (fun y hy => .inl (Nat.le_trans ge_b1 (Nat.le_of_lt (ow.blk y hy).1)))
            refine ⟨true, fun a _ => rfl, fun _ => (aa [(6, _)] ⟨rfl, trivial⟩ ?_), fun h => by cases h⟩
            refine (Gives.does (ak aT rfl am (by decide) rfl)).mono ?_
            rintro v W2 ⟨rfl, rfl⟩; exact ⟨rfl, hJ⟩
          · refine ⟨[3], rfl, ?_⟩; rintro L W1 vs hL0 hLd hJ hd
            have d3 : vs 3 = .pointer (some ⟨b2, 0 + 0, none⟩) := hd 3 (by decide)
            have hk := hJ.1
            have hksz := hk.size
            replace hbx1 := hbx1.keep hk (fun hm => by have h1 := (ow.blk _ hm).1; omega)
            replace hb3 := hb3.keep hk (fun hm => sb_b2_ow _ hm rfl)
            replace hB := hB.new hk (fun y hy => .inl (Nat.le_trans ge_b1 (Nat.le_of_lt (ow.blk y hy).1)))
            refine ⟨true, fun a _ => rfl, fun _ => (aa [(45, .pointer (some ⟨b2, 0 + 0, none⟩))] ⟨congrArg some d3, trivial⟩ ?_), fun h => by cases h⟩
            refine (Gives.does (ae aw rfl hb3 rfl)).mono ?_
            rintro v W2 ⟨rfl, rfl⟩; exact ⟨rfl, hJ⟩
          · refine ⟨[4], rfl, ?_⟩; rintro L W1 vs hL0 hLd hJ hd
            have d4 : vs 4 = r := hd 4 (by decide)
            have hk := hJ.1
            have hksz := hk.size
            replace hbx1 := hbx1.keep hk (fun hm => by have h1 := (ow.blk _ hm).1; omega)
            replace hb3 := hb3.keep hk (fun hm => sb_b2_ow _ hm rfl)
            replace hB := hB.new hk (fun y hy => .inl (Nat.le_trans ge_b1 (Nat.le_of_lt (ow.blk y hy).1)))
            refine ⟨true, fun a _ => rfl, fun _ => (aa [(46, r)] ⟨congrArg some d4, trivial⟩ ?_), fun h => by cases h⟩
            refine (de (m := 1) (xs := [.tmp 46]) (vs := [r]) aJ am (by decide) rfl rfl rfl (by intro v hv; rw [List.mem_singleton] at hv; subst hv; rw [Rd.cells hr0]; rfl) (by decide)).mono ?_
            rintro v W2 ⟨o1, _, _, k1, _⟩; exact ⟨trivial, hJ.bs5 k1 (by have hc9 := Rd.cells hr0; simpa [hc9] using o1)⟩
        rintro w8 L hL vs hJ hS
        have kJ := hJ.1
        have zkJ := kJ.size
        have o2 : OwnB w8 (b1 + 1) (vs 2) (((ss.take i).flatMap itB) ++ [2]) := by unfold OwnB; rw [List.length_append]; exact (hJ.2.2.2.1 (hL 2 (by decide))).1
        replace hbx1 := hbx1.keep kJ (fun hm => by have h1 := (ow.blk _ hm).1; omega)
        replace hb3 := hb3.keep kJ (fun hm => sb_b2_ow _ hm rfl)
        replace hB := hB.new kJ (fun y hy => .inl (Nat.le_trans ge_b1 (Nat.le_of_lt (ow.blk y hy).1)))
        have sl1 : SlL w8 w7.heap.size 22 (vs 5) [x.1] := ⟨[r], rfl, bL (Rd.oC hr0 hB) (bb _), hJ.2.2.2.2 (hL 5 (by decide))⟩
        refine cv [(44, vs 2), (47, vs 5), (1, _), (4, _), (20, _), (21, _), (22, _), (6, _), (7, _), (8, _), (32, _)] ⟨rfl, rfl, rfl, rfl, rfl, rfl, rfl, rfl, rfl, rfl, rfl, trivial⟩ ?_
        obtain ⟨hok, hr32⟩ := it_yes hc3
        obtain ⟨e1, m1⟩ := jh (a := x.1) (by omega)
        have heq := ll hr32
        rw [← e1] at heq
        refine ah (ab (vs := [_]) rfl (dQ _ [x.1] _ _ (by assumption) (.inr (by simp)))) rfl ?_
        rintro v1 w9 ⟨o3, k7⟩
        have gl_o3 := hB.size
        obtain ⟨hbx1, hb3⟩ := cm k7 hbx1 hb3
        replace o2 := o2.oC k7
        replace sl1 := sl1.oC k7
        replace hB := hB.trans k7
        have lt_o4 := hbx1.lt
        refine ah (bW aA cT rfl o2 rfl (show RdB _ _ _ from o3.rd) (by first | omega | (simp only [List.length_append, List.length_cons, List.length_nil] at *; omega)) (by omega)) rfl ?_
        rintro v2 w10 ⟨o4, k8, lb1, _⟩
        have zk_k8 := k8.size
        replace hB := hB.new k8 (fun x hx => .inl (Nat.le_trans ge_b1 (Nat.le_of_lt (o2.blk x hx).1)))
        replace hbx1 := hbx1.keep k8 (fun hm => absurd (o2.blk _ hm).1 (Nat.lt_irrefl _))
        replace o4 := fV o4 rfl
        refine oga rfl rfl (a6 (cG (cG (aZ (a7 (bN rfl rfl (by omega)) rfl (ogm rfl rfl (a6 (cP (Γ := Nat × Value) ⟨i + 1, v2⟩ ⟨rfl, rfl, rfl, rfl, rfl, trivial⟩ (by (try dsimp only); omega) (⟨by omega, j5 hx hall hok, dO o4 (by rw [gD hx, heq]; simp), hbx1, hB⟩)))))))))
      · -- no
        have hd4 := hc3
        try (simp only [Bool.and_eq_true, Bool.or_eq_true, decide_eq_true_eq, Bool.and_eq_false_iff, Bool.or_eq_false_iff, decide_eq_false_iff_not, Bool.not_eq_true', Bool.not_eq_false', Bool.not_eq_true, Bool.not_eq_false, ne_eq, Decidable.not_not, decide_true, decide_false, Bool.true_and, Bool.false_and, Bool.or_false, Bool.false_or, not_true_eq_false, false_or, or_false, true_and, and_true, not_false_eq_true, reduceCtorEq] at hd4)
        refine a5 (aZ (a7 (az 0 aT rfl am (by decide) rfl rfl) rfl (a7 (ae aw rfl hb3 rfl) rfl (a7 (ay aA rfl (by first | assumption | exact Own.rd (by assumption) | exact Rd.oC (by assumption) hB | exact Own.rd (Own.oC (by assumption) hB))) rfl (a7 (bE rfl rfl) rfl (ogm rfl rfl (aq 55 true rfl (fun c3 hgc3 => a9 [(8, _)] (ad rfl rfl rfl hgc3) ⟨bB rfl, trivial⟩ (fun hw8 => bC rfl) rfl ?_))))))))
        refine a9 [(56, _)] (ad rfl rfl rfl hgc3) ⟨ag rfl, trivial⟩ (fun hw9 => bE rfl rfl) rfl (a7 (bM rfl rfl hgc3) rfl (oga rfl rfl (a6 (af [(1, _), (4, _), (20, _), (21, _), (22, _), (7, _), (50, _)] ⟨rfl, rfl, rfl, rfl, rfl, rfl, rfl, trivial⟩ (bD rfl (fun hc4 => ?_) (fun hc4 => ?_))))))
        · -- yes
          have hd5 := hc4
          try (simp only [Bool.and_eq_true, Bool.or_eq_true, decide_eq_true_eq, Bool.and_eq_false_iff, Bool.or_eq_false_iff, decide_eq_false_iff_not, Bool.not_eq_true', Bool.not_eq_false', Bool.not_eq_true, Bool.not_eq_false, ne_eq, Decidable.not_not, decide_true, decide_false, Bool.true_and, Bool.false_and, Bool.or_false, Bool.false_or, not_true_eq_false, false_or, or_false, true_and, and_true, not_false_eq_true, reduceCtorEq] at hd5)
          refine aZ (ogm rfl rfl (ah (de (m := 1) (xs := [.const (.int .u8 (1))]) (vs := [_]) aA cT (by decide) rfl rfl rfl (by first | (simp; done) | (intro v hv; rw [List.mem_singleton] at hv; subst hv; rfl)) (by decide)) rfl ?_))
          rintro v3 w11 ⟨o5, nn1, lb2, k9, z4⟩
          have gl_o5 := hB.size
          replace ow := ow.oC k9
          obtain ⟨hbx1, hb3⟩ := cm k9 hbx1 hb3
          replace o1 := o1.oC k9
          replace hB := hB.trans k9
          replace o5 : Own w11 _ _ 1 v3 1 (bv [1]) := o5
          obtain ⟨hok, h91, h92⟩ := it_val hc4
          have hpl := jY h92
          obtain ⟨e1, m1⟩ := jh (a := prB x.2) (by omega)
          have heq := lk (x := x) (by omega)
          rw [← e1] at heq
          replace o1 := dO o1 (show _ = prB x.2 by rw [h92]; rfl)
          have lt_o6 := hbx1.lt
          refine ah (bW aA cT rfl ow rfl (show RdB _ _ [1] from o5.rd) (by first | omega | (simp only [List.length_append, List.length_cons, List.length_nil] at *; omega)) (by omega)) rfl ?_
          rintro v4 w12 ⟨o6, k10, lb3, _⟩
          have zk_k10 := k10.size
          replace hB := hB.new k10 (fun x hx => .inl (Nat.le_trans ge_b1 (Nat.le_of_lt (ow.blk x hx).1)))
          replace hbx1 := hbx1.keep k10 (fun hm => absurd (ow.blk _ hm).1 (Nat.lt_irrefl _))
          replace o1 := o1.keep k10 (fun x hx hm => by have h1 := (o1.blk x hx).1; have h2 := hqb x hm; omega)
          replace o6 := fV o6 rfl
          refine ogm rfl rfl (ah (cf (m := 1) (ls := [prB x.2]) (xs := [.tmp 62]) (us := [_]) aJ am rfl rfl (bL (by first | exact Rd.nil _ _ | exact (by first | assumption | exact Own.rd (by assumption) | exact Rd.oC (by assumption) hB | exact Own.rd (Own.oC (by assumption) hB))) (bb _)) rfl rfl) rfl ?_)
          rintro v5 w13 ⟨sl2, k11⟩
          replace hbx1 := hbx1.oC k11
          replace o1 := o1.oC k11
          replace o6 := o6.oC k11
          replace hB := hB.trans k11
          refine ah (ab (vs := [_]) rfl (dQ _ [prB x.2] _ _ (by assumption) (.inr (by simp)))) rfl ?_
          rintro v6 w14 ⟨o8, k12⟩
          have gl_o8 := hB.size
          replace hbx1 := hbx1.oC k12
          replace o1 := o1.oC k12
          replace o6 := o6.oC k12
          replace sl2 := sl2.oC k12
          replace hB := hB.trans k12
          have lt_o9 := hbx1.lt
          refine ah (bW aA cT rfl o6 rfl (show RdB _ _ _ from o8.rd) (by first | omega | (simp only [List.length_append, List.length_cons, List.length_nil] at *; omega)) (by omega)) rfl ?_
          rintro v7 w15 ⟨o9, k13, lb4, _⟩
          have zk_k13 := k13.size
          replace hB := hB.new k13 (fun x hx => .inl (Nat.le_trans ge_b1 (Nat.le_of_lt (o6.blk x hx).1)))
          replace hbx1 := hbx1.keep k13 (fun hm => absurd (o6.blk _ hm).1 (Nat.lt_irrefl _))
          replace o9 := fV o9 rfl
          refine oga rfl rfl (a6 (cG (cG (aZ (a7 (bN rfl rfl (by omega)) rfl (ogm rfl rfl (a6 (af [(1, _), (4, _), (20, _), (21, _), (22, _)] ⟨rfl, rfl, rfl, rfl, rfl, trivial⟩ ?_))))))))
          refine cP (Γ := Nat × Value) ⟨i + 1, v7⟩ ⟨rfl, rfl, rfl, rfl, rfl, trivial⟩ (by (try dsimp only); omega) (⟨by omega, j5 hx hall hok, dO o9 (by rw [gD hx, heq]; simp), hbx1, hB⟩)
        · -- no
          have hd6 := hc4
          try (simp only [Bool.and_eq_true, Bool.or_eq_true, decide_eq_true_eq, Bool.and_eq_false_iff, Bool.or_eq_false_iff, decide_eq_false_iff_not, Bool.not_eq_true', Bool.not_eq_false', Bool.not_eq_true, Bool.not_eq_false, ne_eq, Decidable.not_not, decide_true, decide_false, Bool.true_and, Bool.false_and, Bool.or_false, Bool.false_or, not_true_eq_false, false_or, or_false, true_and, and_true, not_false_eq_true, reduceCtorEq] at hd6)
          refine a5 (aZ (oga rfl rfl (oga rfl rfl (a6 (bO hfin Try.results16 rfl rfl ?_)))))
          have hok := bd_at (p := pa) hx (it_no hc3 hc4)
          exact ⟨_, by unfold bdE; rw [hok]; rfl, dO (xs := []) (zs := bdB ss pa) (a8 _ _ _ _) (by simp [bdB, hok]), hB⟩
    · -- no
      refine bd rfl (a5 (aZ ?_))
      have hall2 : ss.all itOk = true := by rw [← List.take_of_length_le (show ss.length ≤ i by omega)]; exact hall
      replace ow := dO ow (show _ = ss.flatMap itB by rw [List.take_of_length_le (show ss.length ≤ i by omega)])
      have hfl2 := dz hall2
      refine ogm rfl rfl (a7 (az 1 aP rfl am (by decide) rfl rfl) rfl (a7 (ae aw rfl hbx1 rfl) rfl (ah (cf (m := 2) (ls := [ss.flatMap itB, pa]) (xs := [.tmp 67, .tmp 69]) (us := [_, _]) aJ am rfl rfl (bL (by first | exact Rd.nil _ _ | exact (by first | assumption | exact Own.rd (by assumption) | exact Rd.oC (by assumption) hB | exact Own.rd (Own.oC (by assumption) hB))) (bL (by first | exact Rd.nil _ _ | exact (by first | assumption | exact Own.rd (by assumption) | exact Rd.oC (by assumption) hB | exact Own.rd (Own.oC (by assumption) hB))) (bb _))) rfl rfl) rfl ?_)))
      rintro v8 w16 ⟨sl3, k14⟩
      replace ow := ow.oC k14
      obtain ⟨hB, hbx1⟩ := bX k14 hB hbx1
      refine ah (ab (vs := [_]) rfl (dQ _ [ss.flatMap itB, pa] _ _ (by assumption) (.inr (by simp)))) rfl ?_
      rintro v9 w17 ⟨o11, k15⟩
      have gl_o11 := hB.size
      replace ow := ow.oC k15
      replace sl3 := sl3.oC k15
      replace hB := hB.trans k15
      refine oga rfl rfl (oga rfl rfl (a6 (af [(2, _), (3, _)] ⟨rfl, rfl, trivial⟩ (bO hfin Try.results16 rfl rfl ?_))))
      have hok := (dU (xs := ss) (p := pa)).2 ⟨by omega, by omega, hall2⟩
      exact ⟨_, by unfold bdE; rw [hok]; rfl, dO (o11.lo gl_o11) (by rw [l6 (by omega) (by omega)]; unfold bdB bdT; rw [hok]; rfl), hB⟩
theorem na (x : It) : ((decide ((x.1.length : Int) = 32) && zeroP x.2) || (decide ((x.1.length : Int) = 0) && prOk x.2)) = itOk x := by
 have e1 : ∀ n : Nat, decide ((x.1.length : Int) = (n : Int)) = decide (x.1.length = n) := fun n => decide_eq_decide.2 (by omega)
 have h1' := e1 32; have h2' := e1 0
 unfold itOk
 rw [← h1', ← h2']; rfl
theorem gc (sv pv : Value) (ss : List It) (pa : List UInt8) (w : World) (hs : RdI w sv ss) (hp : RdB w pv pa) (hsm : ∀ x ∈ ss, x.1.length ≤ 140737488351232 ∧ PrLen x.2) : Rets Try.prog 54 [.agg [sv, pv].toArray] w (fun v w' => v = .bool (bdOk ss pa) ∧ Keep [] w w') := by
 have hB : Keep [] w w := Keep.refl _ _
 obtain ⟨css, hEl, hsl⟩ := hs
 refine ai Try.func54 rfl (by decide) Try.ntmps54 rfl (fun fin _ hfin => a5 (aZ (ah (bc (cs := [sv, pv]) rfl rfl) rfl ?_)))
 rintro _ w1 ⟨b1, rfl, eb1, hb1, k1, z1⟩
 have ge_b1 : w.heap.size ≤ b1 := by have := hB.size; omega
 replace hB := hB.trans k1
 clear eb1 z1
 refine oga rfl rfl (a6 (a5 (a5 (aZ (a7 (az 0 aN rfl fE (by decide) rfl rfl) rfl (a7 (ae gQ rfl hb1 rfl) rfl (a7 (ay aQ rfl (by first | assumption | exact Own.rd ‹_› | exact Rd.oC ‹_› hB | exact Own.rd (Own.oC ‹_› hB))) rfl (a7 (dK rfl rfl) rfl (ogm rfl rfl (aq 9 false rfl (fun c1 hgc1 => a9 [(1, _)] (ad rfl rfl rfl hgc1) ⟨bB rfl, trivial⟩ (fun hw1 => az 1 aN rfl am (by decide) rfl rfl) rfl (a9 [(10, _)] (ad rfl rfl rfl hgc1) ⟨ag rfl, trivial⟩ (fun hw2 => ae aw rfl hb1 rfl) rfl (a9 [(11, _)] (ad rfl rfl rfl hgc1) ⟨ag rfl, trivial⟩ (fun hw3 => ay aA rfl (by first | assumption | exact Own.rd ‹_› | exact Rd.oC ‹_› hB | exact Own.rd (Own.oC ‹_› hB))) rfl (a9 [(12, _)] (ad rfl rfl rfl hgc1) ⟨ag rfl, trivial⟩ (fun hw4 => dK rfl rfl) rfl ?_))))))))))))))
 refine a7 (bP rfl rfl hgc1) rfl (a6 (af [(1, _), (14, _)] ⟨rfl, rfl, trivial⟩ (bD rfl (fun hc1 => ?_) (fun hc1 => ?_))))
 ·
  have hd1 := hc1
  try (simp only [Bool.and_eq_true, Bool.or_eq_true, decide_eq_true_eq, Bool.and_eq_false_iff, Bool.or_eq_false_iff, decide_eq_false_iff_not, Bool.not_eq_true', Bool.not_eq_false', Bool.not_eq_true, Bool.not_eq_false, ne_eq, Decidable.not_not, decide_true, decide_false, Bool.true_and, Bool.false_and, Bool.or_false, Bool.false_or, not_true_eq_false, false_or, or_false, true_and, and_true, not_false_eq_true, reduceCtorEq] at hd1)
  refine a5 (aZ (oga rfl rfl (a6 (al hfin Try.results54 rfl ?_))))
  have hok : bdOk ss pa = false := ny (by simp only [Bool.or_eq_true, decide_eq_true_eq] at hc1; omega)
  exact ⟨by rw [hok], hB⟩
 ·
  have hd2 := hc1
  try (simp only [Bool.and_eq_true, Bool.or_eq_true, decide_eq_true_eq, Bool.and_eq_false_iff, Bool.or_eq_false_iff, decide_eq_false_iff_not, Bool.not_eq_true', Bool.not_eq_false', Bool.not_eq_true, Bool.not_eq_false, ne_eq, Decidable.not_not, decide_true, decide_false, Bool.true_and, Bool.false_and, Bool.or_false, Bool.false_or, not_true_eq_false, false_or, or_false, true_and, and_true, not_false_eq_true, reduceCtorEq] at hd2)
  refine aj (a5 (a5 (aZ (oga rfl rfl (a6 (bA (cO (Γ := Nat) (fun i => [(1, .pointer (some ⟨b1, 0, none⟩)), (3, .int .i64 (i : Int))]) (fun i W => i ≤ ss.length ∧ (ss.take i).all itOk = true ∧ Bk W b1 52 [sv, pv] ∧ Keep [] w W) (fun i => ss.length - i) 0 ⟨rfl, rfl, trivial⟩ (⟨by omega, by simp, hb1, hB⟩) ?_)))))))
  rintro i w2 ⟨hi0, hall, hbx1, hB⟩
  refine af [(1, .pointer (some ⟨b1, 0, none⟩)), (3, .int .i64 (i : Int))] ⟨rfl, rfl, trivial⟩ (a5 (a5 (aZ (ogm rfl rfl (a7 (az 0 aN rfl fE (by decide) rfl rfl) rfl (a7 (ae gQ rfl hbx1 rfl) rfl (a7 (ay aQ rfl (by first | assumption | exact Own.rd ‹_› | exact Rd.oC ‹_› hB | exact Own.rd (Own.oC ‹_› hB))) rfl (a7 (cN rfl rfl) rfl (a6 (bF rfl (fun hc2 => ?_) (fun hc2 => ?_)))))))))))
  ·
   refine aj (a5 (bA (a5 (aZ (a7 (az 0 aN rfl fE (by decide) rfl rfl) rfl (a7 (ae gQ rfl hbx1 rfl) rfl (ogm rfl rfl ?_)))))))
   obtain ⟨x, r, u, hx, hd, hr0, hu0⟩ := jG hEl (i := i) (by omega)
   have hxs := hsm x (List.mem_of_getElem? hx)
   refine a7 (eF aQ eB rfl (by first | assumption | exact Own.rd ‹_› | exact Rd.oC ‹_› hB | exact Own.rd (Own.oC ‹_› hB)) rfl (by omega)) rfl (a7 (jd (cs' := [r, .int .i64 x.2.kind, u.i, u.e, u.s, u.n, .int .i64 x.2.pk.leaf.src, u.h, u.g, u.gg, u.e2, u.s2, u.n2, .int .i64 x.2.lf.src, u.h2, u.g2, .int .i64 x.2.ix, u.y1, u.y2, u.y3]) ag99 eB rfl (Rd.oC hsl hB) hd rfl (by decide)) rfl (ah (bG eB) rfl ?_))
   rintro _ w3 ⟨b2, rfl, eb2, hb2, k2, z2⟩
   have ge_b2 : w.heap.size ≤ b2 := by have := hB.size; omega
   have ne_b1_b2 : b1 ≠ b2 := by have := hbx1.lt; omega
   obtain ⟨hB, hbx1⟩ := bX k2 hB hbx1
   clear eb2 z2
   refine an (bK eB rfl rfl rfl (by simp only [List.forall_mem_cons]; exact ⟨hr0.one, rfl, hu0.i.one, hu0.e.one, hu0.s.one, hu0.n.one, rfl, hu0.h.one, hu0.g.one, hu0.gg.one, hu0.e2.one, hu0.s2.one, hu0.n2.one, rfl, hu0.h2.one, hu0.g2.one, rfl, hu0.y1.one, hu0.y2.one, hu0.y3.one, fun v hv => by cases hv⟩) hb2 rfl) ?_
   rintro _ w4 ⟨hb3, k3, z3⟩
   replace hbx1 := hbx1.keep k3 (nm ne_b1_b2)
   replace hB := hB.new k3 (nw ge_b2)
   clear z3
   replace hb3 : Bk w4 b2 _ [r, .int .i64 x.2.kind, u.i, u.e, u.s, u.n, .int .i64 x.2.pk.leaf.src, u.h, u.g, u.gg, u.e2, u.s2, u.n2, .int .i64 x.2.lf.src, u.h2, u.g2, .int .i64 x.2.ix, u.y1, u.y2, u.y3] := hb3
   refine a6 (af [(1, _), (3, _), (4, _)] ⟨rfl, rfl, rfl, trivial⟩ (a5 (a5 (aZ (a7 (az 0 aS rfl am (by decide) rfl rfl) rfl (a7 (ae aw rfl hb3 rfl) rfl (a7 (ay aA rfl (by first | assumption | exact Own.rd ‹_› | exact Rd.oC ‹_› hB | exact Own.rd (Own.oC ‹_› hB))) rfl (a7 (bE rfl rfl) rfl (ogm rfl rfl (aq 31 true rfl (fun c2 hgc2 => a9 [(4, _)] (ad rfl rfl rfl hgc2) ⟨bB rfl, trivial⟩ (fun hw5 => az 1 aS rfl bl (by decide) rfl rfl) rfl (a9 [(32, _)] (ad rfl rfl rfl hgc2) ⟨ag rfl, trivial⟩ (fun hw6 => au (cs' := [_, _, _, _, _, _, _, _, _, _, _, _, _, _, _, _, _, _, _]) dE bl rfl hb3 rfl rfl) rfl (cC [(33, _)] (ad rfl rfl rfl hgc2) ⟨ag rfl, trivial⟩ (fun hw7 => ab (vs := [_]) rfl (ke u x.2 _ (hu0.oC hB) hxs.2)) rfl ?_)))))))))))))
   rintro w6 k5
   obtain ⟨hB, hbx1, hb3⟩ := cS k5 hB hbx1 hb3
   refine a7 (bM rfl rfl hgc2) rfl (ogm rfl rfl (aq 36 false rfl (fun c3 hgc3 => a9 [(4, _)] (ad rfl rfl rfl hgc3) ⟨bB rfl, trivial⟩ (fun hw8 => az 0 aS rfl am (by decide) rfl rfl) rfl (a9 [(37, _)] (ad rfl rfl rfl hgc3) ⟨ag rfl, trivial⟩ (fun hw9 => ae aw rfl hb3 rfl) rfl (a9 [(38, _)] (ad rfl rfl rfl hgc3) ⟨ag rfl, trivial⟩ (fun hw10 => ay aA rfl (by first | assumption | exact Own.rd ‹_› | exact Rd.oC ‹_› hB | exact Own.rd (Own.oC ‹_› hB))) rfl (a9 [(39, _)] (ad rfl rfl rfl hgc3) ⟨ag rfl, trivial⟩ (fun hw11 => bE rfl rfl) rfl (a9 [(40, _)] (ad rfl rfl rfl hgc3) ⟨ag rfl, trivial⟩ (fun hw12 => bC rfl) rfl (ci 41 true rfl (fun c4 hgc4 => a9 [(4, _)] (cE rfl rfl rfl hgc4) ⟨bB rfl, trivial⟩ (fun hw13 => az 1 aS rfl bl (by decide) rfl rfl) rfl ?_)))))))))
   refine a9 [(42, _)] (cE rfl rfl rfl hgc4) ⟨ag rfl, trivial⟩ (fun hw14 => au (cs' := [_, _, _, _, _, _, _, _, _, _, _, _, _, _, _, _, _, _, _]) dE bl rfl hb3 rfl rfl) rfl (cC [(43, _)] (cE rfl rfl rfl hgc4) ⟨ag rfl, trivial⟩ (fun hw15 => ab (vs := [_]) rfl (rightP u x.2 _ (hu0.oC hB) hxs.2)) rfl ?_)
   rintro w8 k7
   obtain ⟨hB, hbx1⟩ := bX k7 hB hbx1
   refine cu (ad rfl rfl rfl hgc3) (ag rfl) rfl hgc4 rfl (a7 (bP rfl rfl hgc3) rfl (a6 (af [(1, _), (3, _), (46, _)] ⟨rfl, rfl, rfl, trivial⟩ (bD rfl (fun hc3 => ?_) (fun hc3 => ?_)))))
   ·
    have hd3 := hc3
    try (simp only [Bool.and_eq_true, Bool.or_eq_true, decide_eq_true_eq, Bool.and_eq_false_iff, Bool.or_eq_false_iff, decide_eq_false_iff_not, Bool.not_eq_true', Bool.not_eq_false', Bool.not_eq_true, Bool.not_eq_false, ne_eq, Decidable.not_not, decide_true, decide_false, Bool.true_and, Bool.false_and, Bool.or_false, Bool.false_or, not_true_eq_false, false_or, or_false, true_and, and_true, not_false_eq_true, reduceCtorEq] at hd3)
    refine bd rfl (aZ (ogm rfl rfl (a7 (bN rfl rfl (by omega)) rfl (oga rfl rfl (a6 (cP (Γ := Nat) (i + 1) ⟨rfl, rfl, trivial⟩ (by (try dsimp only); omega) (⟨by omega, j5 hx hall (na x ▸ hc3), hbx1, hB⟩)))))))
   ·
    have hd4 := hc3
    try (simp only [Bool.and_eq_true, Bool.or_eq_true, decide_eq_true_eq, Bool.and_eq_false_iff, Bool.or_eq_false_iff, decide_eq_false_iff_not, Bool.not_eq_true', Bool.not_eq_false', Bool.not_eq_true, Bool.not_eq_false, ne_eq, Decidable.not_not, decide_true, decide_false, Bool.true_and, Bool.false_and, Bool.or_false, Bool.false_or, not_true_eq_false, false_or, or_false, true_and, and_true, not_false_eq_true, reduceCtorEq] at hd4)
    refine aj (a5 (aZ (oga rfl rfl (a6 (al hfin Try.results54 rfl ?_)))))
    exact ⟨by rw [bd_at (p := pa) hx (na x ▸ hc3)], hB⟩
  ·
   refine bd rfl (a5 (aZ (oga rfl rfl (a6 (al hfin Try.results54 rfl ?_)))))
   have hall2 : ss.all itOk = true := by rw [← List.take_of_length_le (show ss.length ≤ i by omega)]; exact hall
   exact ⟨by rw [(dU (xs := ss) (p := pa)).2 ⟨by omega, by omega, hall2⟩], hB⟩
theorem kG {a : List UInt8} (h : a.length ≤ 65536) : joinB [a] = vec a := by
 unfold joinB dv
 simp only [List.flatMap_cons, List.flatMap_nil, List.append_nil]
 rw [if_pos h]
theorem kH {a b : List UInt8} (h1 : a.length ≤ 65536) (h2 : b.length ≤ 65536) : joinB [a, b] = vec a ++ vec b := by
 unfold joinB dv
 simp only [List.flatMap_cons, List.flatMap_nil, List.append_nil]
 rw [if_pos h1, if_pos h2]
theorem fD (xs : List UInt8) : (vec xs).length ≤ xs.length + 4 := by
 have := av xs.length
 unfold vec; rw [List.length_append]; omega
theorem kF {a : List UInt8} (h : a.length ≤ 65536) : joinB [a] = vec a ∧ (joinB [a]).length ≤ a.length + 4 := ⟨kG h, by rw [kG h]; exact fD a⟩
theorem mf {a b : List UInt8} (h1 : a.length ≤ 65536) (h2 : b.length ≤ 65536) : (joinB [a, b]).length ≤ 140737488355328 := by
 have := fD a; have := fD b
 rw [kH h1 h2, List.length_append]; omega
theorem it_no32 {x : It} (h : itOk x = true) (h1 : ¬ (x.1.length : Int) = 32) : prOk x.2 = true ∧ itB x = 1 :: vec (prB x.2) := by
 rcases fp h with ⟨h2, _⟩ | ⟨h2, h3⟩
 · omega
 · exact ⟨h3, lk (by rw [h2]; rfl)⟩
theorem its_sub {ss : List It} (i : Nat) (h : ss.all itOk = true) : (ss.take i).all itOk = true := List.all_eq_true.2 fun x hx => List.all_eq_true.1 h x (List.mem_of_mem_take hx)
theorem its_in {ss : List It} {i : Nat} {x : It} (h : ss.all itOk = true) (hx : ss[i]? = some x) : itOk x = true := List.all_eq_true.1 h x (List.mem_of_getElem? hx)
theorem mT (sv pv : Value) (ss : List It) (pa : List UInt8) (w : World) (hs : RdI w sv ss) (hp : RdB w pv pa) (hsm : ∀ x ∈ ss, x.1.length ≤ 140737488351232 ∧ PrLen x.2) : Rets Try.prog 17 [.agg [sv, pv].toArray] w (fun v w' => ∃ u, v = .tuple #[u, .int .i64 (bdE ss pa)] ∧ OwnB w' w.heap.size u (bdB ss pa) ∧ Keep [] w w') := by
  have hB : Keep [] w w := Keep.refl _ _
  have hs' := hs
  obtain ⟨css, hEl, hsl⟩ := hs'
  refine ai Try.func17 rfl (by decide) Try.ntmps17 rfl (fun fin _ hfin => a5 (aZ (ah (bc (cs := [sv, pv]) rfl rfl) rfl ?_)))
  rintro _ w1 ⟨b1, rfl, eb1, hb1, k1, z1⟩
  have ge_b1 : w.heap.size ≤ b1 := by have := hB.size; omega
  replace hB := hB.trans k1
  clear eb1 z1
  refine oga rfl rfl (oga rfl rfl (a6 (a5 (a5 (aZ (a7 (au (cs' := [_, _]) ig eY rfl hb1 rfl rfl) rfl (ah (ab (vs := [_]) rfl (gc sv pv ss pa _ (RdI.oC hs hB) (Rd.oC hp hB) hsm)) rfl ?_)))))))
  rintro _ w2 ⟨rfl, k2⟩
  obtain ⟨hB, hb1⟩ := bX k2 hB hb1
  refine a7 (cd rfl) rfl (a6 (bD rfl (fun hc1 => ?_) (fun hc1 => ?_)))
  · -- yes
    have hd1 := hc1
    try (simp only [Bool.and_eq_true, Bool.or_eq_true, decide_eq_true_eq, Bool.and_eq_false_iff, Bool.or_eq_false_iff, decide_eq_false_iff_not, Bool.not_eq_true', Bool.not_eq_false', Bool.not_eq_true, Bool.not_eq_false, ne_eq, Decidable.not_not, decide_true, decide_false, Bool.true_and, Bool.false_and, Bool.or_false, Bool.false_or, not_true_eq_false, false_or, or_false, true_and, and_true, not_false_eq_true, reduceCtorEq] at hd1)
    refine a5 (aZ (oga rfl rfl (oga rfl rfl (a6 (bO hfin Try.results17 rfl rfl ?_)))))
    have hok : bdOk ss pa = false := by simpa using hc1
    exact ⟨_, by unfold bdE; rw [hok]; rfl, dO (xs := []) (zs := bdB ss pa) (a8 _ _ _ _) (by simp [bdB, hok]), hB⟩
  · -- no
    have hd2 := hc1
    try (simp only [Bool.and_eq_true, Bool.or_eq_true, decide_eq_true_eq, Bool.and_eq_false_iff, Bool.or_eq_false_iff, decide_eq_false_iff_not, Bool.not_eq_true', Bool.not_eq_false', Bool.not_eq_true, Bool.not_eq_false, ne_eq, Decidable.not_not, decide_true, decide_false, Bool.true_and, Bool.false_and, Bool.or_false, Bool.false_or, not_true_eq_false, false_or, or_false, true_and, and_true, not_false_eq_true, reduceCtorEq] at hd2)
    refine aj (a5 (aZ (oga rfl rfl (a6 (a5 (a5 (aZ ?_)))))))
    have hgood := (dU (xs := ss) (p := pa)).1 (by simpa using hc1)
    refine oga rfl rfl (a6 (bA (cO (Γ := Nat × Value) (fun ⟨i, o⟩ => [(1, .pointer (some ⟨b1, 0, none⟩)), (4, o), (5, .int .i64 (i : Int))]) (fun ⟨i, o⟩ W => i ≤ ss.length ∧ OwnB W (b1 + 1) o ((ss.take i).flatMap itB) ∧ Bk W b1 52 [sv, pv] ∧ Keep [] w W) (fun ⟨i, o⟩ => ss.length - i) ⟨0, .slice none 0 0⟩ ⟨rfl, rfl, rfl, trivial⟩ (⟨by omega, a8 _ _ _ _, hb1, hB⟩) ?_)))
    rintro ⟨i, o⟩ w3 ⟨hi0, ow, hbx1, hB⟩
    refine af [(1, .pointer (some ⟨b1, 0, none⟩)), (4, o), (5, .int .i64 (i : Int))] ⟨rfl, rfl, rfl, trivial⟩ ?_
    have hfl := dz (its_sub i hgood.2.2)
    rw [List.length_take] at hfl
    have hqb := fun x hx => (ow.blk x hx).2
    refine a5 (a5 (aZ (ogm rfl rfl (a7 (az 0 aN rfl fE (by decide) rfl rfl) rfl (a7 (ae gQ rfl hbx1 rfl) rfl (a7 (ay aQ rfl (by first | assumption | exact Own.rd (by assumption) | exact Rd.oC (by assumption) hB | exact Own.rd (Own.oC (by assumption) hB))) rfl (a7 (cN rfl rfl) rfl (a6 ?_))))))))
    refine bF rfl (fun hc2 => ?_) (fun hc2 => ?_)
    · -- yes
      refine aj (a5 (bA (a5 (aZ (a7 (az 0 aN rfl fE (by decide) rfl rfl) rfl (a7 (ae gQ rfl hbx1 rfl) rfl (ogm rfl rfl ?_)))))))
      obtain ⟨x, r, u, hx, hd, hr0, hu0⟩ := jG hEl (i := i) (by omega)
      have hxs := hsm x (List.mem_of_getElem? hx)
      refine a7 (eF aQ eB rfl (by first | assumption | exact Own.rd (by assumption) | exact Rd.oC (by assumption) hB | exact Own.rd (Own.oC (by assumption) hB)) rfl (by omega)) rfl (a7 (jd (cs' := [r, .int .i64 x.2.kind, u.i, u.e, u.s, u.n, .int .i64 x.2.pk.leaf.src, u.h, u.g, u.gg, u.e2, u.s2, u.n2, .int .i64 x.2.lf.src, u.h2, u.g2, .int .i64 x.2.ix, u.y1, u.y2, u.y3]) ag99 eB rfl (Rd.oC hsl hB) hd rfl (by decide)) rfl (ah (bG eB) rfl ?_))
      rintro _ w4 ⟨b2, rfl, eb2, hb2, k3, z2⟩
      have ge_b2 : w.heap.size ≤ b2 := by have := hB.size; omega
      have sb_b2_ow := fun x hx => (show x ≠ b2 from by have := (ow.blk x hx).2; omega)
      have ne_b1_b2 : b1 ≠ b2 := by have := hbx1.lt; omega
      replace ow := ow.oC k3
      obtain ⟨hB, hbx1⟩ := bX k3 hB hbx1
      clear eb2 z2
      refine an (bK eB rfl rfl rfl (by simp only [List.forall_mem_cons]; exact ⟨hr0.one, rfl, hu0.i.one, hu0.e.one, hu0.s.one, hu0.n.one, rfl, hu0.h.one, hu0.g.one, hu0.gg.one, hu0.e2.one, hu0.s2.one, hu0.n2.one, rfl, hu0.h2.one, hu0.g2.one, rfl, hu0.y1.one, hu0.y2.one, hu0.y3.one, fun v hv => by cases hv⟩) hb2 rfl) ?_
      rintro _ w5 ⟨hb3, k4, z3⟩
      replace ow := ow.keep k4 (fun x hx hm => sb_b2_ow x hx (List.mem_singleton.1 hm))
      replace hbx1 := hbx1.keep k4 (nm ne_b1_b2)
      replace hB := hB.new k4 (nw ge_b2)
      clear z3
      replace hb3 : Bk w5 b2 _ [r, .int .i64 x.2.kind, u.i, u.e, u.s, u.n, .int .i64 x.2.pk.leaf.src, u.h, u.g, u.gg, u.e2, u.s2, u.n2, .int .i64 x.2.lf.src, u.h2, u.g2, .int .i64 x.2.ix, u.y1, u.y2, u.y3] := hb3
      refine a6 (af [(1, _), (4, _), (5, _), (6, _)] ⟨rfl, rfl, rfl, rfl, trivial⟩ (a5 (aZ ?_)))
      have zk3 := k3.size
      have zk4 := k4.size
      refine a7 (az 0 aS rfl am (by decide) rfl rfl) rfl (a7 (ae aw rfl hb3 rfl) rfl (a7 (ay aA rfl (by first | assumption | exact Own.rd (by assumption) | exact Rd.oC (by assumption) hB | exact Own.rd (Own.oC (by assumption) hB))) rfl (a7 (bE rfl rfl) rfl (a6 (bF rfl (fun hc3 => ?_) (fun hc3 => ?_))))))
      · -- yes
        have hlt9 : ∀ y, y ∈ vblk o → y < w5.heap.size := fun y hy => (ow.blk y hy).2
        have hlo9 := hbx1.lt
        refine fS 6 mixed [(1, _), (4, _), (5, _), (6, _), (24, _), (25, _), (26, _), (27, _)] (fun jj v => match jj with | 0 => v = o | 3 => v = .pointer (some ⟨b2, 0 + 0, none⟩) | 4 => v = r | _ => True) (apJ w5 (b1 + 1) 5 22 o ((ss.take i).flatMap itB) 2 r) ⟨rfl, rfl, rfl, rfl, rfl, rfl, rfl, rfl, trivial⟩ (by decide) (by decide) rfl (fun vs => apJ_0 ow vs) (fun L vs vs' w' h hJ => hJ.same (fun h0 => h 1 h0 rfl) (fun h0 => h 2 h0 rfl) (fun h0 => h 5 h0 rfl)) ?_ ?_
        · refine ⟨?_, ?_, ?_, ?_, ?_, ?_, trivial⟩
          · refine ⟨[], rfl, ?_⟩; rintro L W1 vs hL0 hLd hJ hd
            have hk := hJ.1
            have hksz := hk.size
            replace hbx1 := hbx1.keep hk (fun hm => by have h1 := (ow.blk _ hm).1; omega)
            replace hb3 := hb3.keep hk (fun hm => sb_b2_ow _ hm rfl)
            replace hB := hB.new hk (fun y hy => .inl (Nat.le_trans ge_b1 (Nat.le_of_lt (ow.blk y hy).1)))
            refine ⟨true, fun a _ => rfl, fun _ => (aa [(4, _)] ⟨rfl, trivial⟩ ?_), fun h => by cases h⟩
            refine (Gives.does (bC rfl)).mono ?_
            rintro v W2 ⟨rfl, rfl⟩; exact ⟨rfl, hJ⟩
          · refine ⟨[], rfl, ?_⟩; rintro L W1 vs hL0 hLd hJ hd
            have hk := hJ.1
            have hksz := hk.size
            replace hbx1 := hbx1.keep hk (fun hm => by have h1 := (ow.blk _ hm).1; omega)
            replace hb3 := hb3.keep hk (fun hm => sb_b2_ow _ hm rfl)
            replace hB := hB.new hk (fun y hy => .inl (Nat.le_trans ge_b1 (Nat.le_of_lt (ow.blk y hy).1)))
            refine ⟨true, fun a _ => rfl, fun _ => (aa [] trivial ?_), fun h => by cases h⟩
            refine (de (m := 1) (xs := [.const (.int .u8 (2))]) (vs := [_]) aA cT (by decide) rfl rfl rfl (by intro v hv; rw [List.mem_singleton] at hv; subst hv; rfl) (by decide)).mono ?_
            rintro v W2 ⟨o1, _, _, k1, _⟩; exact ⟨trivial, hJ.bs1 k1 (show RdB _ _ [2] from o1.rd) (fun y hy => (o1.blk y hy).1)⟩
          · refine ⟨[0, 1], rfl, ?_⟩; rintro L W1 vs hL0 hLd hJ hd
            have d0 : vs 0 = o := hd 0 (by decide)
            have hk := hJ.1
            have hksz := hk.size
            replace hbx1 := hbx1.keep hk (fun hm => by have h1 := (ow.blk _ hm).1; omega)
            replace hb3 := hb3.keep hk (fun hm => sb_b2_ow _ hm rfl)
            replace hB := hB.new hk (fun y hy => .inl (Nat.le_trans ge_b1 (Nat.le_of_lt (ow.blk y hy).1)))
            refine ⟨true, fun a _ => rfl, fun _ => (aa [(28, o), (29, vs 1)] ⟨congrArg some d0, rfl, trivial⟩ ?_), fun h => by cases h⟩
            refine (bW aA cT rfl (hJ.2.1 hL0) rfl (hJ.2.2.1 (hLd 1 (by decide))).1 (by simp only [List.length_cons, List.length_nil]; omega) (by omega)).mono ?_
            rintro v W2 ⟨o1, k1, lb, _⟩; exact ⟨trivial, hJ.app hlt9 o1 k1 lb⟩
          · refine ⟨[], rfl, ?_⟩; rintro L W1 vs hL0 hLd hJ hd
            have hk := hJ.1
            have hksz := hk.size
            replace hbx1 := hbx1.keep hk (fun hm => by have h1 := (ow.blk _ hm).1; omega)
            replace hb3 := hb3.keep hk (fun hm => sb_b2_ow _ hm rfl)
            replace hB := hB.new hk (fun y hy => .inl (Nat.le_trans ge_b1 (Nat.le_of_lt (ow.blk y hy).1)))
            refine ⟨true, fun a _ => rfl, fun _ => (aa [(6, _)] ⟨rfl, trivial⟩ ?_), fun h => by cases h⟩
            refine (Gives.does (ak aS rfl am (by decide) rfl)).mono ?_
            rintro v W2 ⟨rfl, rfl⟩; exact ⟨rfl, hJ⟩
          · refine ⟨[3], rfl, ?_⟩; rintro L W1 vs hL0 hLd hJ hd
            have d3 : vs 3 = .pointer (some ⟨b2, 0 + 0, none⟩) := hd 3 (by decide)
            have hk := hJ.1
            have hksz := hk.size
            replace hbx1 := hbx1.keep hk (fun hm => by have h1 := (ow.blk _ hm).1; omega)
            replace hb3 := hb3.keep hk (fun hm => sb_b2_ow _ hm rfl)
            replace hB := hB.new hk (fun y hy => .inl (Nat.le_trans ge_b1 (Nat.le_of_lt (ow.blk y hy).1)))
            refine ⟨true, fun a _ => rfl, fun _ => (aa [(31, .pointer (some ⟨b2, 0 + 0, none⟩))] ⟨congrArg some d3, trivial⟩ ?_), fun h => by cases h⟩
            refine (Gives.does (ae aw rfl hb3 rfl)).mono ?_
            rintro v W2 ⟨rfl, rfl⟩; exact ⟨rfl, hJ⟩
          · refine ⟨[4], rfl, ?_⟩; rintro L W1 vs hL0 hLd hJ hd
            have d4 : vs 4 = r := hd 4 (by decide)
            have hk := hJ.1
            have hksz := hk.size
            replace hbx1 := hbx1.keep hk (fun hm => by have h1 := (ow.blk _ hm).1; omega)
            replace hb3 := hb3.keep hk (fun hm => sb_b2_ow _ hm rfl)
            replace hB := hB.new hk (fun y hy => .inl (Nat.le_trans ge_b1 (Nat.le_of_lt (ow.blk y hy).1)))
            refine ⟨true, fun a _ => rfl, fun _ => (aa [(32, r)] ⟨congrArg some d4, trivial⟩ ?_), fun h => by cases h⟩
            refine (de (m := 1) (xs := [.tmp 32]) (vs := [r]) aJ am (by decide) rfl rfl rfl (by intro v hv; rw [List.mem_singleton] at hv; subst hv; rw [Rd.cells hr0]; rfl) (by decide)).mono ?_
            rintro v W2 ⟨o1, _, _, k1, _⟩; exact ⟨trivial, hJ.bs5 k1 (by have hc9 := Rd.cells hr0; simpa [hc9] using o1)⟩
        rintro w6 L hL vs hJ hS
        have kJ := hJ.1
        have zkJ := kJ.size
        have o1 : OwnB w6 (b1 + 1) (vs 2) (((ss.take i).flatMap itB) ++ [2]) := by unfold OwnB; rw [List.length_append]; exact (hJ.2.2.2.1 (hL 2 (by decide))).1
        replace hbx1 := hbx1.keep kJ (fun hm => by have h1 := (ow.blk _ hm).1; omega)
        replace hb3 := hb3.keep kJ (fun hm => sb_b2_ow _ hm rfl)
        replace hB := hB.new kJ (fun y hy => .inl (Nat.le_trans ge_b1 (Nat.le_of_lt (ow.blk y hy).1)))
        have sl1 : SlL w6 w5.heap.size 22 (vs 5) [x.1] := ⟨[r], rfl, bL (Rd.oC hr0 hB) (bb _), hJ.2.2.2.2 (hL 5 (by decide))⟩
        refine cv [(30, vs 2), (33, vs 5), (1, _), (4, _), (5, _), (6, _), (24, _), (25, _), (26, _), (27, _)] ⟨rfl, rfl, rfl, rfl, rfl, rfl, rfl, rfl, rfl, rfl, trivial⟩ ?_
        have hr32 : x.1.length = 32 := by omega
        obtain ⟨e1, m1⟩ := kF (a := x.1) (by omega)
        have heq := ll hr32
        rw [← e1] at heq
        refine ah (ab (vs := [_]) rfl (cH _ _ _ _ (by assumption) (Nat.le_trans m1 (by omega)))) rfl ?_
        rintro v1 w7 ⟨o2, k5⟩
        have gl_o2 := hB.size
        obtain ⟨hbx1, hb3⟩ := cm k5 hbx1 hb3
        replace o1 := o1.oC k5
        replace sl1 := sl1.oC k5
        replace hB := hB.trans k5
        have lt_o3 := hbx1.lt
        refine ah (bW aA cT rfl o1 rfl (show RdB _ _ _ from o2.rd) (by first | omega | (simp only [List.length_append, List.length_cons, List.length_nil] at *; omega)) (by omega)) rfl ?_
        rintro v2 w8 ⟨o3, k6, lb1, _⟩
        have zk_k6 := k6.size
        replace hB := hB.new k6 (fun x hx => .inl (Nat.le_trans ge_b1 (Nat.le_of_lt (o1.blk x hx).1)))
        replace hbx1 := hbx1.keep k6 (fun hm => absurd (o1.blk _ hm).1 (Nat.lt_irrefl _))
        replace o3 := fV o3 rfl
        refine oga rfl rfl (a6 (cG (aZ (ogm rfl rfl (a7 (bN rfl rfl (by omega)) rfl (oga rfl rfl (a6 (af [(1, _), (4, _), (5, _)] ⟨rfl, rfl, rfl, trivial⟩ ?_))))))))
        refine cP (Γ := Nat × Value) ⟨i + 1, v2⟩ ⟨rfl, rfl, rfl, trivial⟩ (by (try dsimp only); omega) (⟨by omega, dO o3 (by rw [gD hx, heq]; simp), hbx1, hB⟩)
      · -- no
        refine a5 (aZ (a7 (az 1 aS rfl bl (by decide) rfl rfl) rfl (a7 (au (cs' := [_, _, _, _, _, _, _, _, _, _, _, _, _, _, _, _, _, _, _]) dE bl rfl hb3 rfl rfl) rfl (ah (ab (vs := [_]) rfl (rputP u x.2 _ (hu0.oC hB) hxs.2)) rfl ?_))))
        rintro _ w9 ⟨u1, rfl, o4, k7⟩
        have gl_o4 := hB.size
        replace ow := ow.oC k7
        obtain ⟨hB, hbx1, hb3⟩ := cS k7 hB hbx1 hb3
        have zk7 := k7.size
        refine ogm rfl rfl (a7 (bH (vs := [_, _]) rfl rfl) rfl (a7 (bH (vs := [_, _]) rfl rfl) rfl (oga rfl rfl (oga rfl rfl (a6 (af [(1, _), (4, _), (5, _), (7, _)] ⟨rfl, rfl, rfl, rfl, trivial⟩ (aZ (ogm rfl rfl ?_))))))))
        refine ah (de (m := 1) (xs := [.const (.int .u8 (1))]) (vs := [_]) aA cT (by decide) rfl rfl rfl (by first | (simp; done) | (intro v hv; rw [List.mem_singleton] at hv; subst hv; rfl)) (by decide)) rfl ?_
        rintro v3 w10 ⟨o5, nn1, lb2, k8, z4⟩
        have gl_o5 := hB.size
        replace ow := ow.oC k8
        replace hbx1 := hbx1.oC k8
        replace o4 := o4.oC k8
        replace hB := hB.trans k8
        replace o5 : Own w10 _ _ 1 v3 1 (bv [1]) := o5
        obtain ⟨h92, heq⟩ := it_no32 (its_in hgood.2.2 hx) hc3
        have hpl := jY h92
        obtain ⟨e1, m1⟩ := kF (a := prB x.2) (by omega)
        rw [← e1] at heq
        replace o4 := dO o4 (show _ = prB x.2 by rw [h92]; rfl)
        have lt_o6 := hbx1.lt
        refine ah (bW aA cT rfl ow rfl (show RdB _ _ [1] from o5.rd) (by first | omega | (simp only [List.length_append, List.length_cons, List.length_nil] at *; omega)) (by omega)) rfl ?_
        rintro v4 w11 ⟨o6, k9, lb3, _⟩
        have zk_k9 := k9.size
        replace hB := hB.new k9 (fun x hx => .inl (Nat.le_trans ge_b1 (Nat.le_of_lt (ow.blk x hx).1)))
        replace hbx1 := hbx1.keep k9 (fun hm => absurd (ow.blk _ hm).1 (Nat.lt_irrefl _))
        replace o4 := o4.keep k9 (fun x hx hm => by have h1 := (o4.blk x hx).1; have h2 := hqb x hm; omega)
        replace o6 := fV o6 rfl
        refine ogm rfl rfl (ah (cf (m := 1) (ls := [prB x.2]) (xs := [.tmp 45]) (us := [_]) aJ am rfl rfl (bL (by first | exact Rd.nil _ _ | exact (by first | assumption | exact Own.rd (by assumption) | exact Rd.oC (by assumption) hB | exact Own.rd (Own.oC (by assumption) hB))) (bb _)) rfl rfl) rfl ?_)
        rintro v5 w12 ⟨sl2, k10⟩
        replace hbx1 := hbx1.oC k10
        replace o4 := o4.oC k10
        replace o6 := o6.oC k10
        replace hB := hB.trans k10
        refine ah (ab (vs := [_]) rfl (cH _ _ _ _ (by assumption) (Nat.le_trans m1 (by omega)))) rfl ?_
        rintro v6 w13 ⟨o8, k11⟩
        have gl_o8 := hB.size
        replace hbx1 := hbx1.oC k11
        replace o4 := o4.oC k11
        replace o6 := o6.oC k11
        replace sl2 := sl2.oC k11
        replace hB := hB.trans k11
        have lt_o9 := hbx1.lt
        refine ah (bW aA cT rfl o6 rfl (show RdB _ _ _ from o8.rd) (by first | omega | (simp only [List.length_append, List.length_cons, List.length_nil] at *; omega)) (by omega)) rfl ?_
        rintro v7 w14 ⟨o9, k12, lb4, _⟩
        have zk_k12 := k12.size
        replace hB := hB.new k12 (fun x hx => .inl (Nat.le_trans ge_b1 (Nat.le_of_lt (o6.blk x hx).1)))
        replace hbx1 := hbx1.keep k12 (fun hm => absurd (o6.blk _ hm).1 (Nat.lt_irrefl _))
        replace o9 := fV o9 rfl
        refine oga rfl rfl (a6 (cG (aZ (ogm rfl rfl (a7 (bN rfl rfl (by omega)) rfl (oga rfl rfl (a6 (af [(1, _), (4, _), (5, _)] ⟨rfl, rfl, rfl, trivial⟩ ?_))))))))
        refine cP (Γ := Nat × Value) ⟨i + 1, v7⟩ ⟨rfl, rfl, rfl, trivial⟩ (by (try dsimp only); omega) (⟨by omega, dO o9 (by rw [gD hx, heq]; simp), hbx1, hB⟩)
    · -- no
      refine bd rfl (a5 (aZ ?_))
      have hall2 := hgood.2.2
      replace ow := dO ow (show _ = ss.flatMap itB by rw [List.take_of_length_le (show ss.length ≤ i by omega)])
      have hfl2 := dz hall2
      refine ogm rfl rfl (a7 (az 1 aN rfl am (by decide) rfl rfl) rfl (a7 (ae aw rfl hbx1 rfl) rfl (ah (cf (m := 2) (ls := [ss.flatMap itB, pa]) (xs := [.tmp 49, .tmp 51]) (us := [_, _]) aJ am rfl rfl (bL (by first | exact Rd.nil _ _ | exact (by first | assumption | exact Own.rd (by assumption) | exact Rd.oC (by assumption) hB | exact Own.rd (Own.oC (by assumption) hB))) (bL (by first | exact Rd.nil _ _ | exact (by first | assumption | exact Own.rd (by assumption) | exact Rd.oC (by assumption) hB | exact Own.rd (Own.oC (by assumption) hB))) (bb _))) rfl rfl) rfl ?_)))
      rintro v8 w15 ⟨sl3, k13⟩
      replace ow := ow.oC k13
      obtain ⟨hB, hbx1⟩ := bX k13 hB hbx1
      refine ah (ab (vs := [_]) rfl (cH _ [ss.flatMap itB, pa] _ _ (by assumption) (mf (by omega) (by omega)))) rfl ?_
      rintro v9 w16 ⟨o11, k14⟩
      have gl_o11 := hB.size
      replace ow := ow.oC k14
      replace sl3 := sl3.oC k14
      replace hB := hB.trans k14
      refine oga rfl rfl (oga rfl rfl (a6 (af [(2, _), (3, _)] ⟨rfl, rfl, trivial⟩ (bO hfin Try.results17 rfl rfl ?_))))
      have hok := (dU (xs := ss) (p := pa)).2 ⟨by omega, by omega, hall2⟩
      exact ⟨_, by unfold bdE; rw [hok]; rfl, dO (o11.lo gl_o11) (by rw [kH (by omega) (by omega)]; unfold bdB bdT; rw [hok]; rfl), hB⟩
theorem l4 (sv pv : Value) (ss : List It) (pa : List UInt8) (w : World) (hs : RdI w sv ss) (hp : RdB w pv pa) (hsm : ∀ x ∈ ss, x.1.length ≤ 140737488351232 ∧ PrLen x.2) (v : Value) (c : List UInt8) (hv : RdB w v c) : Rets Try.prog 57 [.agg [sv, pv].toArray, .func (.func 16) #[] #[], v] w (fun r w' => r = .tuple #[.agg (bif (bdOk ss pa && decide (bdB ss pa = c)) then [sv, pv] else [.slice none 0 0, .slice none 0 0]).toArray, .int .i64 (bif (bdOk ss pa && decide (bdB ss pa = c)) then 0 else 21)] ∧ Keep [] w w') := by
 have hB : Keep [] w w := Keep.refl _ _
 have hs' := hs
 obtain ⟨css, hEl, hsl⟩ := hs'
 refine ai Try.func57 rfl (by decide) Try.ntmps57 rfl (fun fin _ hfin => a5 (aZ (ah (bc (cs := [sv, pv]) rfl rfl) rfl ?_)))
 rintro _ w1 ⟨b1, rfl, eb1, hb1, k1, z1⟩
 have ge_b1 : w.heap.size ≤ b1 := by have := hB.size; omega
 replace hB := hB.trans k1
 clear eb1 z1
 refine ah (bG cj) rfl ?_
 rintro _ w2 ⟨b2, rfl, eb2, hb2, k2, z2⟩
 have ge_b2 : w.heap.size ≤ b2 := by have := hB.size; omega
 have ne_b1_b2 : b1 ≠ b2 := by have := hb1.lt; omega
 obtain ⟨hB, hb1⟩ := bX k2 hB hb1
 clear eb2 z2
 refine oga rfl rfl (a6 (a5 (aZ (ah (bG cj) rfl ?_))))
 rintro _ w3 ⟨b3, rfl, eb3, hb3, k3, z3⟩
 obtain ⟨hB, hb1, hb2⟩ := cS k3 hB hb1 hb2
 clear eb3 z3
 refine a6 (a5 (a5 (aZ (ogm rfl rfl (a7 (au (cs' := [_, _]) ft cj rfl hb1 rfl rfl) rfl (ah (gy rfl rfl (eT sv pv ss pa _ (RdI.oC hs hB) (Rd.oC hp hB) hsm)) rfl ?_))))))
 rintro _ w4 ⟨v1, rfl, o1, k4⟩
 obtain ⟨hB, hb1, hb2, hb3⟩ := kq3 k4 hB hb1 hb2 hb3
 refine ogm rfl rfl (a7 (bH (vs := [_, _]) rfl rfl) rfl (a7 (bH (vs := [_, _]) rfl rfl) rfl (oga rfl rfl (oga rfl rfl (a6 (a5 (aZ (ogm rfl rfl (a7 (bn rfl rfl) rfl (ogm rfl rfl (aq 19 false rfl (fun c1 hgc1 => a9 [(9, _)] (ad rfl rfl rfl hgc1) ⟨bB rfl, trivial⟩ (fun hw1 => bC rfl) rfl (a9 [(2, _)] (ad rfl rfl rfl hgc1) ⟨bB rfl, trivial⟩ (fun hw2 => bC rfl) rfl (dk [(20, _), (21, _)] (ad rfl rfl rfl hgc1) ⟨ag rfl, ag rfl, trivial⟩ (fun hw3 => ab (vs := [_, _]) rfl (lw _ _ (bdB ss pa) c _ (o1.rd) (hv.oC hB))) rfl (a9 [(22, _)] (ad rfl rfl rfl hgc1) ⟨ag rfl, trivial⟩ (fun hw4 => eu rfl) rfl (a7 (bP rfl rfl hgc1) rfl ?_))))))))))))))))
 refine a6 (af [(3, _), (6, _), (8, _), (24, _)] ⟨rfl, rfl, rfl, rfl, trivial⟩ (bD rfl (fun hc1 => ?_) (fun hc1 => ?_)))
 ·
  have hd1 := hc1
  try (simp only [Bool.and_eq_true, Bool.or_eq_true, decide_eq_true_eq, Bool.and_eq_false_iff, Bool.or_eq_false_iff, decide_eq_false_iff_not, Bool.not_eq_true', Bool.not_eq_false', Bool.not_eq_true, Bool.not_eq_false, ne_eq, Decidable.not_not, decide_true, decide_false, Bool.true_and, Bool.false_and, Bool.or_false, Bool.false_or, not_true_eq_false, false_or, or_false, true_and, and_true, not_false_eq_true, reduceCtorEq] at hd1)
  refine a5 (aZ (a7 (au (cs' := [_, _]) ft cj rfl hb3 rfl rfl) rfl (an (bK cj rfl rfl rfl (by simp only [List.forall_mem_cons]; refine ⟨rfl, rfl, fun v hv => by cases hv⟩) hb2 rfl) ?_)))
  rintro _ w5 ⟨hb4, k5, z4⟩
  replace hb1 := hb1.keep k5 (nm ne_b1_b2)
  replace hB := hB.new k5 (nw ge_b2)
  clear z4
  replace hb4 : Bk w5 b2 _ [.slice none 0 0, .slice none 0 0] := hb4
  refine oga rfl rfl (a6 (bJ hfin Try.results57 rfl (ar ft cj hb4 rfl) rfl ?_))
  have hok : (bdOk ss pa && decide (bdB ss pa = c)) = false := by
   unfold bdE at hc1
   cases hw : bdOk ss pa <;> simp_all
  exact ⟨by rw [hok]; rfl, hB⟩
 ·
  have hd2 := hc1
  try (simp only [Bool.and_eq_true, Bool.or_eq_true, decide_eq_true_eq, Bool.and_eq_false_iff, Bool.or_eq_false_iff, decide_eq_false_iff_not, Bool.not_eq_true', Bool.not_eq_false', Bool.not_eq_true, Bool.not_eq_false, ne_eq, Decidable.not_not, decide_true, decide_false, Bool.true_and, Bool.false_and, Bool.or_false, Bool.false_or, not_true_eq_false, false_or, or_false, true_and, and_true, not_false_eq_true, reduceCtorEq] at hd2)
  refine aj (a5 (aZ (a7 (au (cs' := [_, _]) ft cj rfl hb1 rfl rfl) rfl (an (bK cj rfl rfl rfl (by simp only [List.forall_mem_cons]; refine ⟨Rd.one hsl, Rd.one hp, fun v hv => by cases hv⟩) hb2 rfl) ?_))))
  rintro _ w6 ⟨hb5, k6, z5⟩
  replace hB := hB.new k6 (nw ge_b2)
  clear z5
  replace hb5 : Bk w6 b2 _ [sv, pv] := hb5
  refine oga rfl rfl (a6 (bJ hfin Try.results57 rfl (ar ft cj hb5 rfl) rfl ?_))
  have hok : (bdOk ss pa && decide (bdB ss pa = c)) = true := by
   unfold bdE at hc1
   cases hw : bdOk ss pa <;> simp_all
  exact ⟨by rw [hok]; rfl, hB⟩
theorem nz (sv pv : Value) (ss : List It) (pa : List UInt8) (w : World) (hs : RdI w sv ss) (hp : RdB w pv pa) (hsm : ∀ x ∈ ss, x.1.length ≤ 140737488351232 ∧ PrLen x.2) (v : Value) (c : List UInt8) (hv : RdB w v c) : Rets Try.prog 57 [.agg [sv, pv].toArray, .func (.func 16) #[] #[], v] w (fun r w' => ∃ q u, r = .tuple #[.agg [q, u].toArray, .int .i64 (bif (bdOk ss pa && decide (bdB ss pa = c)) then 0 else 21)] ∧ q.oneCell' = true ∧ u.oneCell' = true ∧ ((bdOk ss pa && decide (bdB ss pa = c)) = true ∧ q = sv ∧ u = pv ∨ (bdOk ss pa && decide (bdB ss pa = c)) = false ∧ q = .slice none 0 0 ∧ u = .slice none 0 0) ∧ Keep [] w w') := by
  have h1 : sv.oneCell' = true := hs.one
  refine (l4 sv pv ss pa w hs hp hsm v c hv).mono fun r w' ⟨h, k⟩ => ?_
  cases hOK : (bdOk ss pa && decide (bdB ss pa = c))
  · rw [hOK] at h; exact ⟨_, _, h, rfl, rfl, .inr ⟨rfl, rfl, rfl⟩, k⟩
  · rw [hOK] at h; exact ⟨_, _, h, h1, hp.one, .inl ⟨rfl, rfl, rfl⟩, k⟩
theorem gR (sv pv tv jv : Value) (ss : List It) (pa : List UInt8) (w : World) (hs : RdI w sv ss) (hp : RdB w pv pa) (ht : RdI w tv ss) (hj : RdB w jv pa) : Rets Try.prog 21 [.agg [sv, pv].toArray, .agg [tv, jv].toArray] w (fun v w' => v = .bool true ∧ Keep [] w w') := by
  have hB : Keep [] w w := Keep.refl _ _
  obtain ⟨css, hEl, hsl⟩ := hs
  obtain ⟨cst, hEm, htl⟩ := ht
  have hle := hsl.le
  refine ai Try.func21 rfl (by decide) Try.ntmps21 rfl (fun fin _ hfin => a5 (aZ (ah (bc (cs := [sv, pv]) rfl rfl) rfl ?_)))
  rintro _ w1 ⟨b1, rfl, eb1, hb1, k1, z1⟩
  have ge_b1 : w.heap.size ≤ b1 := by have := hB.size; omega
  replace hB := hB.trans k1
  clear eb1 z1
  refine ah (bc (cs := [tv, jv]) rfl rfl) rfl ?_
  rintro _ w2 ⟨b2, rfl, eb2, hb2, k2, z2⟩
  have ge_b2 : w.heap.size ≤ b2 := by have := hB.size; omega
  have ne_b1_b2 : b1 ≠ b2 := by have := hb1.lt; omega
  obtain ⟨hB, hb1⟩ := bX k2 hB hb1
  clear eb2 z2
  refine oga rfl rfl (a6 (a5 (a5 (aZ (a7 (az 0 aP rfl fa (by decide) rfl rfl) rfl (a7 (ae jT rfl hb1 rfl) rfl (a7 (ay aR rfl (by first | assumption | exact Own.rd (by assumption) | exact Rd.oC (by assumption) hB | exact Own.rd (Own.oC (by assumption) hB))) rfl (a7 (az 0 aN rfl fE (by decide) rfl rfl) rfl ?_))))))))
  refine a7 (ae gQ rfl hb2 rfl) rfl (a7 (ay aQ rfl (by first | assumption | exact Own.rd (by assumption) | exact Rd.oC (by assumption) hB | exact Own.rd (Own.oC (by assumption) hB))) rfl (a7 (bn rfl rfl) rfl (ogm rfl rfl (ax (grdT rfl rfl rfl (decide_eq_false (fun h => h rfl))) (az 1 aP rfl am (by decide) rfl rfl) rfl (ax (grdT rfl rfl rfl (decide_eq_false (fun h => h rfl))) (ae aw rfl hb1 rfl) rfl (ax (grdT rfl rfl rfl (decide_eq_false (fun h => h rfl))) (br aA aG aI rfl (by first | assumption | exact Own.rd (by assumption) | exact Rd.oC (by assumption) hB | exact Own.rd (Own.oC (by assumption) hB))) rfl (ax (grdT rfl rfl rfl (decide_eq_false (fun h => h rfl))) (az 1 aN rfl am (by decide) rfl rfl) rfl (ax (grdT rfl rfl rfl (decide_eq_false (fun h => h rfl))) (ae aw rfl hb2 rfl) rfl ?_))))))))
  refine ax (grdT rfl rfl rfl (decide_eq_false (fun h => h rfl))) (br aA aG aI rfl (by first | assumption | exact Own.rd (by assumption) | exact Rd.oC (by assumption) hB | exact Own.rd (Own.oC (by assumption) hB))) rfl (ax (grdT rfl rfl rfl (decide_eq_false (fun h => h rfl))) (kT rfl rfl) rfl (a7 (dR rfl (decide_eq_false (fun h => h rfl)) rfl) rfl (a6 (af [(2, _), (3, _), (21, _)] ⟨rfl, rfl, rfl, trivial⟩ (dg rfl ((fun h => h rfl)) (aj (a5 (a5 ?_))))))))
  refine aZ (oga rfl rfl (a6 (bA (cO (Γ := Nat) (fun i => [(2, .pointer (some ⟨b1, 0, none⟩)), (3, .pointer (some ⟨b2, 0, none⟩)), (5, .int .i64 (i : Int))]) (fun i W => i ≤ ss.length ∧ Bk W b1 55 [sv, pv] ∧ Bk W b2 52 [tv, jv] ∧ Keep [] w W) (fun i => ss.length - i) 0 ⟨rfl, rfl, rfl, trivial⟩ (⟨by omega, hb1, hb2, hB⟩) ?_))))
  rintro i w3 ⟨hi0, hbx2, hbx3, hB⟩
  refine af [(2, .pointer (some ⟨b1, 0, none⟩)), (3, .pointer (some ⟨b2, 0, none⟩)), (5, .int .i64 (i : Int))] ⟨rfl, rfl, rfl, trivial⟩ (a5 (a5 (aZ (ogm rfl rfl (a7 (az 0 aP rfl fa (by decide) rfl rfl) rfl (a7 (ae jT rfl hbx2 rfl) rfl (a7 (ay aR rfl (by first | assumption | exact Own.rd (by assumption) | exact Rd.oC (by assumption) hB | exact Own.rd (Own.oC (by assumption) hB))) rfl (a7 (cN rfl rfl) rfl ?_))))))))
  refine a6 (bF rfl (fun hc1 => ?_) (fun hc1 => ?_))
  · -- yes
    refine aj (a5 (bA (a5 (ca 31 [0, 1, 2, 3, 4, 5, 6, 7, 8, 9, 10, 11, 12, 13, 14, 15, 16, 17, 18, 19, 20, 21, 22, 23, 24, 25, 26, 27, 28, 29, 30] [28] [] [] mixed [(2, _), (5, _), (3, _)] ⟨rfl, rfl, rfl, trivial⟩ (by decide +kernel) (by decide) (by decide) ?_ (fun x hx => by cases hx) rfl (fun w4 k3 => ?_)))))
    · intro q hq; cases hq
    obtain ⟨hB, hbx2, hbx3⟩ := cS k3 hB hbx2 hbx3
    obtain ⟨x, r, u, hx, hd, hr0, hu0⟩ := jG hEl (i := i) (by omega)
    obtain ⟨x', r2, u2, hx', hd2, hr2, hu2⟩ := jG hEm (i := i) (by omega)
    obtain rfl : x = x' := Option.some.inj (hx.symm.trans hx')
    have h0 := j6 hd
    have g0 := j6 hd2
    have sn1 := Rd.some' hsl (by omega)
    have sn2 := Rd.some' htl (by omega)
    refine ba 2 rfl rfl rfl rfl (fun W' kk => az 0 aP rfl fa (by decide) rfl rfl) (ba 29 rfl rfl rfl rfl (fun W' kk => ae jT rfl (Bk.oC hbx2 kk) rfl) (eC 5 rfl rfl rfl rfl rfl (iI 30 31 rfl rfl rfl rfl rfl (fun W' kk => eF aR dZ rfl (by first | exact Rd.oC (by assumption) kk | exact Rd.oC (Own.rd (by assumption)) kk | exact Rd.oC (Rd.oC (by assumption) hB) kk | exact Rd.oC (Own.rd (Own.oC (by assumption) hB)) kk) rfl (by omega)) (ba 32 rfl rfl rfl rfl (fun W' kk => jM aT rfl am (by decide) rfl sn1) (ba 33 rfl rfl rfl rfl (fun W' kk => jL aw rfl (by first | exact Rd.oC (by assumption) kk | exact Rd.oC (Own.rd (by assumption)) kk | exact Rd.oC (Rd.oC (by assumption) hB) kk | exact Rd.oC (Own.rd (Own.oC (by assumption) hB)) kk) h0.1) (ba 34 rfl rfl rfl rfl (fun W' kk => br aA aG aI rfl (by first | exact Rd.oC (by assumption) kk | exact Rd.oC (Own.rd (by assumption)) kk | exact Rd.oC (Rd.oC (by assumption) hB) kk | exact Rd.oC (Own.rd (Own.oC (by assumption) hB)) kk)) (ba 3 rfl rfl rfl rfl (fun W' kk => az 0 aN rfl fE (by decide) rfl rfl) (ba 36 rfl rfl rfl rfl (fun W' kk => ae gQ rfl (Bk.oC hbx3 kk) rfl) ?_))))))))
    refine eC 5 rfl rfl rfl rfl rfl (iI 37 38 rfl rfl rfl rfl rfl (fun W' kk => eF aQ eB rfl (by first | exact Rd.oC (by assumption) kk | exact Rd.oC (Own.rd (by assumption)) kk | exact Rd.oC (Rd.oC (by assumption) hB) kk | exact Rd.oC (Own.rd (Own.oC (by assumption) hB)) kk) rfl (by omega)) (ba 39 rfl rfl rfl rfl (fun W' kk => jM aS rfl am (by decide) rfl sn2) (ba 40 rfl rfl rfl rfl (fun W' kk => jL aw rfl (by first | exact Rd.oC (by assumption) kk | exact Rd.oC (Own.rd (by assumption)) kk | exact Rd.oC (Rd.oC (by assumption) hB) kk | exact Rd.oC (Own.rd (Own.oC (by assumption) hB)) kk) g0.1) (ba 41 rfl rfl rfl rfl (fun W' kk => br aA aG aI rfl (by first | exact Rd.oC (by assumption) kk | exact Rd.oC (Own.rd (by assumption)) kk | exact Rd.oC (Rd.oC (by assumption) hB) kk | exact Rd.oC (Own.rd (Own.oC (by assumption) hB)) kk)) (iI 35 42 rfl rfl rfl rfl rfl (fun W' kk => kT rfl rfl) (eC 43 rfl rfl rfl rfl rfl (cV [(2, _), (44, _)] rfl rfl ⟨rfl, rfl, trivial⟩ rfl (grdT rfl rfl rfl (decide_eq_false (fun h => h rfl))) (fun W' kk => az 0 aP rfl fa (by decide) rfl rfl) (cV [(44, _), (45, _)] rfl rfl ⟨rfl, rfl, trivial⟩ rfl (grdT rfl rfl rfl (decide_eq_false (fun h => h rfl))) (fun W' kk => ae jT rfl (Bk.oC hbx2 kk) rfl) ?_))))))))
    refine cV [(5, _), (44, _)] rfl rfl ⟨rfl, rfl, trivial⟩ rfl (grdT rfl rfl rfl (decide_eq_false (fun h => h rfl))) (fun W' kk => bC rfl) (cV [(44, _), (46, _), (47, _)] rfl rfl ⟨rfl, rfl, rfl, trivial⟩ rfl (grdT rfl rfl rfl (decide_eq_false (fun h => h rfl))) (fun W' kk => eF aR dZ rfl (by first | exact Rd.oC (by assumption) kk | exact Rd.oC (Own.rd (by assumption)) kk | exact Rd.oC (Rd.oC (by assumption) hB) kk | exact Rd.oC (Own.rd (Own.oC (by assumption) hB)) kk) rfl (by omega)) (cV [(44, _), (48, _)] rfl rfl ⟨rfl, rfl, trivial⟩ rfl (grdT rfl rfl rfl (decide_eq_false (fun h => h rfl))) (fun W' kk => jM aT rfl bz (by decide) rfl sn1) (cV [(44, _), (49, _)] rfl rfl ⟨rfl, rfl, trivial⟩ rfl (grdT rfl rfl rfl (decide_eq_false (fun h => h rfl))) (fun W' kk => lV (cs' := [.int .i64 x.2.kind, u.i, u.e, u.s, u.n, .int .i64 x.2.pk.leaf.src, u.h, u.g, u.gg, u.e2, u.s2, u.n2, .int .i64 x.2.lf.src, u.h2, u.g2, .int .i64 x.2.ix, u.y1, u.y2, u.y3]) dY bz rfl (Rd.oC (Rd.oC hsl hB) kk) h0.2 rfl (by decide)) (cV [(3, _), (44, _)] rfl rfl ⟨rfl, rfl, trivial⟩ rfl (grdT rfl rfl rfl (decide_eq_false (fun h => h rfl))) (fun W' kk => az 0 aN rfl fE (by decide) rfl rfl) (cV [(44, _), (51, _)] rfl rfl ⟨rfl, rfl, trivial⟩ rfl (grdT rfl rfl rfl (decide_eq_false (fun h => h rfl))) (fun W' kk => ae gQ rfl (Bk.oC hbx3 kk) rfl) ?_)))))
    refine cV [(5, _), (44, _)] rfl rfl ⟨rfl, rfl, trivial⟩ rfl (grdT rfl rfl rfl (decide_eq_false (fun h => h rfl))) (fun W' kk => bC rfl) (cV [(44, _), (52, _), (53, _)] rfl rfl ⟨rfl, rfl, rfl, trivial⟩ rfl (grdT rfl rfl rfl (decide_eq_false (fun h => h rfl))) (fun W' kk => eF aQ eB rfl (by first | exact Rd.oC (by assumption) kk | exact Rd.oC (Own.rd (by assumption)) kk | exact Rd.oC (Rd.oC (by assumption) hB) kk | exact Rd.oC (Own.rd (Own.oC (by assumption) hB)) kk) rfl (by omega)) (cV [(44, _), (54, _)] rfl rfl ⟨rfl, rfl, trivial⟩ rfl (grdT rfl rfl rfl (decide_eq_false (fun h => h rfl))) (fun W' kk => jM aS rfl bl (by decide) rfl sn2) (cV [(44, _), (55, _)] rfl rfl ⟨rfl, rfl, trivial⟩ rfl (grdT rfl rfl rfl (decide_eq_false (fun h => h rfl))) (fun W' kk => lV (cs' := [.int .i64 x.2.kind, u2.i, u2.e, u2.s, u2.n, .int .i64 x.2.pk.leaf.src, u2.h, u2.g, u2.gg, u2.e2, u2.s2, u2.n2, .int .i64 x.2.lf.src, u2.h2, u2.g2, .int .i64 x.2.ix, u2.y1, u2.y2, u2.y3]) dE bl rfl (Rd.oC (Rd.oC htl hB) kk) g0.2 rfl (by decide)) (pa_dt [(44, _), (50, _), (56, _)] rfl rfl ⟨rfl, rfl, rfl, trivial⟩ rfl (grdT rfl rfl rfl (decide_eq_false (fun h => h rfl))) (fun w6 k5 => ?_)))))
    obtain ⟨hB, hbx2, hbx3⟩ := cS k5 hB hbx2 hbx3
    refine (ab (vs := [_, _]) rfl (samePrP u u2 x.2 _ (hu0.oC hB) (hu2.oC hB))).mono ?_
    rintro _ w5 ⟨rfl, k4⟩
    refine ⟨k4, nox, ?_⟩
    obtain ⟨hB, hbx2, hbx3⟩ := cS k4 hB hbx2 hbx3
    refine cV [(44, _), (57, _)] rfl rfl ⟨rfl, rfl, trivial⟩ rfl (grdT rfl rfl rfl (decide_eq_false (fun h => h rfl))) (fun W' kk => cd rfl) (iI 44 58 rfl rfl rfl rfl rfl (fun W' kk => dR rfl (decide_eq_false (fun h => h rfl)) rfl) (dW (fun w7 k6 => ?_)))
    obtain ⟨hB, hbx2, hbx3⟩ := cS k6 hB hbx2 hbx3
    refine ce (a6 (af [(2, _), (5, _), (3, _), (59, _)] ⟨rfl, rfl, rfl, rfl, trivial⟩ (dS rfl (rfl) (aj (cG (aZ (ogm rfl rfl (a7 (bN rfl rfl (by omega)) rfl ?_))))))))
    refine oga rfl rfl (a6 (cP (Γ := Nat) (i + 1) ⟨rfl, rfl, rfl, trivial⟩ (by (try dsimp only); omega) (⟨by omega, hbx2, hbx3, hB⟩)))
  · -- no
    refine bd rfl (a5 (aZ (oga rfl rfl (a6 (al hfin Try.results21 rfl ?_)))))
    exact ⟨rfl, hB⟩
theorem nV (v : Value) (xs : List UInt8) (w : World) (hv : RdB w v xs) (hx : xs.length ≤ 140737488351232) : Rets Try.prog 5 [v] w (fun r w' => ∃ u, r = cut u 0 xs.length 1 ∧ Own w' w.heap.size 5 1 u (xs.length + 2) (bv (xs ++ [201, 202])) ∧ Keep [] w w') := by
 have hB : Keep [] w w := Keep.refl _ _
 refine ai Try.func5 rfl (by decide) Try.ntmps5 rfl (fun fin _ hfin => a5 (aZ (oga rfl rfl (a6 (a5 (aZ ?_))))))
 have gl_oa := hB.size
 refine ah (d_bs0 aA cT rfl) rfl ?_
 rintro _ wg ⟨g, rfl, hge, hg0, kg⟩
 replace hB := hB.trans kg
 refine ogm rfl rfl (ah (nr (lo := w.heap.size) aA cT rfl rfl rfl hg0 (hge ▸ Nat.le_refl _) rfl (hv.oC hB) (by omega)) rfl ?_)
 rintro va wa ⟨oa, ka⟩
 replace hB := hB.trans ka
 refine oga rfl rfl (a6 (a5 (aZ (ogm rfl rfl ?_))))
 have hlo0 : w.heap.size ≤ wa.heap.size := Nat.le_trans kg.size ka.size
 refine ah (de (m := 2) (xs := [.const (.int .u8 (201)), .const (.int .u8 (202))]) (vs := [_, _]) aA cT (by decide) rfl rfl rfl (by simp only [List.forall_mem_cons]; exact ⟨rfl, rfl, fun v hv => by cases hv⟩) (by decide)) rfl ?_
 rintro v1 w1 ⟨o1, nn1, lb1, k1, z1⟩
 have gl_o1 := hB.size
 replace oa := oa.oC k1
 replace hB := hB.trans k1
 replace o1 : Own w1 _ _ 1 v1 2 (bv [201, 202]) := o1
 have hlo := Nat.le_trans hlo0 k1.size
 refine ah (bW aA cT rfl oa rfl (show RdB _ _ [201, 202] from o1.rd) (by show xs.length + 2 ≤ _; omega) hlo) rfl ?_
 rintro vb wb ⟨ob, kb, _, _⟩
 replace hB := hB.new kb (fun x hx => .inl (Nat.le_trans gl_oa (oa.blk x hx).1))
 refine oga rfl rfl (a6 (a5 (aZ (ogm rfl rfl (ogm rfl rfl (a7 (ay aA rfl (by first | assumption | exact Own.rd ‹_› | exact Rd.oC ‹_› hB | exact Own.rd (Own.oC ‹_› hB))) rfl (a7 (go aA cT rfl ob.rd (.inl ⟨rfl, rfl⟩) (.inr ⟨_, _, rfl, rfl⟩) (by have := ob.rd.vcap; have : [(201 : UInt8), 202].length = 2 := rfl; omega)) rfl (oga rfl rfl (a6 (af [(2, _)] ⟨rfl, trivial⟩ (al hfin Try.results5 rfl ?_)))))))))))
 exact ⟨vb, rfl, ob.lo gl_oa, hB⟩
theorem mN (u v : Value) (xs : List UInt8) (lo : Nat) (w : World) (ho : Own w lo 5 1 u (xs.length + 2) (bv (xs ++ [201, 202]))) (hv : RdB w v xs) (hx : xs.length ≤ 140737488351232) : Rets Try.prog 13 [cut u 0 xs.length 1, v] w (fun r w' => r = .bool true ∧ Keep [] w w') := by
  have hB : Keep [] w w := Keep.refl _ _
  obtain ⟨u10, hu10⟩ : ∃ u10, u10 = cut (cut u 0 xs.length 1) (0 : Int).toNat ((xs.length : Int) + 2).toNat 1 := ⟨_, rfl⟩
  have hall : RdB w u (xs ++ [201, 202]) := by unfold RdB; rw [List.length_append]; exact ho.rd
  have h10 : RdB w u10 (xs ++ [201, 202]) := by
    have e : cut (cut u 0 xs.length 1) (0 : Int).toNat ((xs.length : Int) + 2).toNat 1 = cut u 0 (xs.length + 2) 1 := by rw [show (0 : Int).toNat = 0 from rfl, show ((xs.length : Int) + 2).toNat = xs.length + 2 by omega]; exact cut_cut hall
    rw [hu10, e]
    have h := hall.cutB (l := 0) (hi := xs.length + 2) (by omega) (by simp)
    rwa [List.drop_zero, Nat.sub_zero, List.take_of_length_le (by simp)] at h
  have h14 : RdB w (cut u10 0 xs.length 1) xs := by
    have h := h10.cutB (l := 0) (hi := xs.length) (by omega) (by simp)
    rwa [List.drop_zero, Nat.sub_zero, List.take_left' rfl] at h
  have hcap : (0 : Int) ≤ 0 ∧ (0 : Int) ≤ (xs.length : Int) + 2 ∧ (xs.length : Int) + 2 ≤ (vcap (cut u 0 xs.length 1) : Int) := by
    obtain ⟨A, c, e, h1, h2, _⟩ := hall
    subst e
    rw [List.length_append] at h1
    have h1 : xs.length + 2 ≤ c := h1
    refine ⟨Int.le_refl _, by omega, ?_⟩
    show (xs.length : Int) + 2 ≤ ((c - 0 : Nat) : Int)
    omega
  refine ai Try.func13 rfl (by decide) Try.ntmps13 rfl (fun fin _ hfin => a5 (aZ (oga rfl rfl (a6 (a5 (aZ (ogm rfl rfl (ogm rfl rfl ?_))))))))
  refine a7 (ay aA rfl (by first | assumption | exact Own.rd (by assumption) | exact Rd.oC (by assumption) hB | exact Own.rd (Own.oC (by assumption) hB))) rfl (a7 (bN rfl rfl (by omega)) rfl (a7 (v := u10) (by rw [hu10]; exact go aA cT rfl (lg ho) (.inl ⟨rfl, rfl⟩) (.inr ⟨_, _, rfl, rfl⟩) hcap) rfl (oga rfl rfl (a6 (a5 (ca 26 [0, 1, 2, 3, 4, 5, 6, 7, 8, 9, 10, 11, 12, 13, 14, 15, 16, 17, 18, 19, 20, 21, 22, 23, 24, 25] [] [] [] mixed [(5, _), (1, _)] ⟨rfl, rfl, trivial⟩ (by decide +kernel) (by decide) (by decide) ?_ (fun x hx => by cases hx) rfl (fun w1 k1 => ?_)))))))
  · intro q hq; cases hq
  replace hB := hB.trans k1
  refine eC 5 rfl rfl rfl rfl rfl (eC 1 rfl rfl rfl rfl rfl (ba 12 rfl rfl rfl rfl (fun W' kk => ay aA rfl (by first | exact Rd.oC (by assumption) kk | exact Rd.oC (Own.rd (by assumption)) kk | exact Rd.oC (Rd.oC (by assumption) hB) kk | exact Rd.oC (Own.rd (Own.oC (by assumption) hB)) kk)) (iI 11 13 rfl rfl rfl rfl rfl (fun W' kk => go aA cT rfl (by first | exact Rd.oC (by assumption) kk | exact Rd.oC (Own.rd (by assumption)) kk | exact Rd.oC (Rd.oC (by assumption) hB) kk | exact Rd.oC (Own.rd (Own.oC (by assumption) hB)) kk) (.inl ⟨rfl, rfl⟩) (.inr ⟨_, _, rfl, rfl⟩) (by have := h10.vcap; simp only [List.length_append, List.length_cons, List.length_nil] at this; omega)) (ba 14 rfl rfl rfl rfl (fun W' kk => br aA aG aI rfl (by first | exact Rd.oC (by assumption) kk | exact Rd.oC (Own.rd (by assumption)) kk | exact Rd.oC (Rd.oC (by assumption) hB) kk | exact Rd.oC (Own.rd (Own.oC (by assumption) hB)) kk)) (eC 1 rfl rfl rfl rfl rfl (ba 16 rfl rfl rfl rfl (fun W' kk => br aA aG aI rfl (by first | exact Rd.oC (by assumption) kk | exact Rd.oC (Own.rd (by assumption)) kk | exact Rd.oC (Rd.oC (by assumption) hB) kk | exact Rd.oC (Own.rd (Own.oC (by assumption) hB)) kk)) (iI 15 17 rfl rfl rfl rfl rfl (fun W' kk => eA rfl rfl) (eC 18 rfl rfl rfl rfl rfl ?_))))))))
  refine cV [(5, _), (19, _)] rfl rfl ⟨rfl, rfl, trivial⟩ rfl (grdT rfl rfl rfl (decide_eq_true rfl)) (fun W' kk => bC rfl) (cV [(1, _), (19, _)] rfl rfl ⟨rfl, rfl, trivial⟩ rfl (grdT rfl rfl rfl (decide_eq_true rfl)) (fun W' kk => bC rfl) (cV [(19, _), (21, _)] rfl rfl ⟨rfl, rfl, trivial⟩ rfl (grdT rfl rfl rfl (decide_eq_true rfl)) (fun W' kk => ay aA rfl (by first | exact Rd.oC (by assumption) kk | exact Rd.oC (Own.rd (by assumption)) kk | exact Rd.oC (Rd.oC (by assumption) hB) kk | exact Rd.oC (Own.rd (Own.oC (by assumption) hB)) kk)) (cV [(19, _), (20, _), (22, _)] rfl rfl ⟨rfl, rfl, rfl, trivial⟩ rfl (grdT rfl rfl rfl (decide_eq_true rfl)) (fun W' kk => eF aA cT rfl (by first | exact Rd.oC (by assumption) kk | exact Rd.oC (Own.rd (by assumption)) kk | exact Rd.oC (Rd.oC (by assumption) hB) kk | exact Rd.oC (Own.rd (Own.oC (by assumption) hB)) kk) rfl (by simp only [List.length_append, List.length_cons, List.length_nil]; omega)) (cV [(19, _), (23, _)] rfl rfl ⟨rfl, rfl, trivial⟩ rfl (grdT rfl rfl rfl (decide_eq_true rfl)) (fun W' kk => gh sc5 rfl (by first | exact Rd.oC (by assumption) kk | exact Rd.oC (Own.rd (by assumption)) kk | exact Rd.oC (Rd.oC (by assumption) hB) kk | exact Rd.oC (Own.rd (Own.oC (by assumption) hB)) kk) (by simp only [List.length_append, List.length_cons, List.length_nil]; omega)) ?_))))
  refine cV [(19, _), (24, _)] rfl rfl ⟨rfl, rfl, trivial⟩ rfl (grdT rfl rfl rfl (decide_eq_true rfl)) (fun W' kk => bE rfl rfl) (iI 19 25 rfl rfl rfl rfl rfl (fun W' kk => cK rfl (decide_eq_true rfl) rfl) (eC 26 rfl rfl rfl rfl rfl (cV [(5, _), (27, _)] rfl rfl ⟨rfl, rfl, trivial⟩ rfl (grdT rfl rfl rfl (decide_eq_true (gf xs))) (fun W' kk => bC rfl) (cV [(1, _), (27, _)] rfl rfl ⟨rfl, rfl, trivial⟩ rfl (grdT rfl rfl rfl (decide_eq_true (gf xs))) (fun W' kk => bC rfl) (cV [(27, _), (29, _)] rfl rfl ⟨rfl, rfl, trivial⟩ rfl (grdT rfl rfl rfl (decide_eq_true (gf xs))) (fun W' kk => ay aA rfl (by first | exact Rd.oC (by assumption) kk | exact Rd.oC (Own.rd (by assumption)) kk | exact Rd.oC (Rd.oC (by assumption) hB) kk | exact Rd.oC (Own.rd (Own.oC (by assumption) hB)) kk)) (cV [(27, _), (30, _)] rfl rfl ⟨rfl, rfl, trivial⟩ rfl (grdT rfl rfl rfl (decide_eq_true (gf xs))) (fun W' kk => bN rfl rfl (by omega)) (cV [(27, _), (28, _), (31, _)] rfl rfl ⟨rfl, rfl, rfl, trivial⟩ rfl (grdT rfl rfl rfl (decide_eq_true (gf xs))) (fun W' kk => eF aA cT rfl (by first | exact Rd.oC (by assumption) kk | exact Rd.oC (Own.rd (by assumption)) kk | exact Rd.oC (Rd.oC (by assumption) hB) kk | exact Rd.oC (Own.rd (Own.oC (by assumption) hB)) kk) rfl (by simp only [List.length_append, List.length_cons, List.length_nil]; omega)) ?_)))))))
  refine cV [(27, _), (32, _)] rfl rfl ⟨rfl, rfl, trivial⟩ rfl (grdT rfl rfl rfl (decide_eq_true (gf xs))) (fun W' kk => gh sc5 rfl (by first | exact Rd.oC (by assumption) kk | exact Rd.oC (Own.rd (by assumption)) kk | exact Rd.oC (Rd.oC (by assumption) hB) kk | exact Rd.oC (Own.rd (Own.oC (by assumption) hB)) kk) (by simp only [List.length_append, List.length_cons, List.length_nil]; omega)) (cV [(27, _), (33, _)] rfl rfl ⟨rfl, rfl, trivial⟩ rfl (grdT rfl rfl rfl (decide_eq_true (gf xs))) (fun W' kk => bE rfl rfl) (iI 27 34 rfl rfl rfl rfl rfl (fun W' kk => cK rfl (decide_eq_true (gf xs)) rfl) (ba 35 rfl rfl rfl rfl (fun W' kk => kV rfl) (dW (fun w2 k2 => ?_)))))
  replace hB := hB.trans k2
  refine ce (a6 (af [(4, _)] ⟨rfl, trivial⟩ (al hfin Try.results13 rfl ?_)))
  exact ⟨by rw [decide_eq_true (mark2 xs)], hB⟩
theorem kgR_len (c : List UInt8) : ((kgR c).pk.init).length ≤ 65536 ∧ ((kgR c).pk.leaf.enc).length ≤ 65536 ∧ ((kgR c).pk.leaf.sig).length ≤ 65536 ∧ ((kgR c).pk.leaf.name).length ≤ 65536 ∧ ((kgR c).pk.leaf.hash).length ≤ 65536 ∧ ((kgR c).pk.leaf.sg).length ≤ 65536 ∧ ((kgR c).pk.sg).length ≤ 65536 ∧ ((kgR c).lf.enc).length ≤ 65536 ∧ ((kgR c).lf.sig).length ≤ 65536 ∧ ((kgR c).lf.name).length ≤ 65536 ∧ ((kgR c).lf.hash).length ≤ 65536 ∧ ((kgR c).lf.sg).length ≤ 65536 ∧ ((kgR c).psk).length ≤ 65536 ∧ ((kgR c).nonce).length ≤ 65536 ∧ ((kgR c).enc).length ≤ 65536 := by
 unfold kgR
 cases kgOk c with
 | false => simp only [cond_false]; exact ⟨Nat.zero_le _, Nat.zero_le _, Nat.zero_le _, Nat.zero_le _, Nat.zero_le _, Nat.zero_le _, Nat.zero_le _, Nat.zero_le _, Nat.zero_le _, Nat.zero_le _, Nat.zero_le _, Nat.zero_le _, Nat.zero_le _, Nat.zero_le _, Nat.zero_le _⟩
 | true =>
   simp only [cond_true]
   have g := j9 (kyV c).1; have l := ja (kyV c).1
   have hV : (kyV c).1.length ≤ 65536 := bU _ _
   have hW : (kyW c).1.length ≤ 65536 := bU _ _
   by_cases h1 : (kyA c).1 = 1
   · rw [(lR h1).1]; refine ⟨?_, ?_, ?_, ?_, ?_, ?_, ?_, ?_, ?_, ?_, ?_, ?_, ?_, ?_, ?_⟩ <;> first | exact Nat.zero_le _ | (dsimp only; omega)
   · by_cases h2 : (kyA c).1 = 2
     · rw [(lQ h2).1]; refine ⟨?_, ?_, ?_, ?_, ?_, ?_, ?_, ?_, ?_, ?_, ?_, ?_, ?_, ?_, ?_⟩ <;> first | exact Nat.zero_le _ | (dsimp only; omega)
     · by_cases h3 : (kyA c).1 = 3
       · rw [(lP h3).1]; refine ⟨?_, ?_, ?_, ?_, ?_, ?_, ?_, ?_, ?_, ?_, ?_, ?_, ?_, ?_, ?_⟩ <;> exact Nat.zero_le _
       · by_cases h4 : (kyA c).1 = 4
         · rw [(lO h4).1]; refine ⟨?_, ?_, ?_, ?_, ?_, ?_, ?_, ?_, ?_, ?_, ?_, ?_, ?_, ?_, ?_⟩ <;> first | exact Nat.zero_le _ | (dsimp only; omega)
         · by_cases h6 : (kyA c).1 = 6
           · rw [(ky_6 h6).1]; refine ⟨?_, ?_, ?_, ?_, ?_, ?_, ?_, ?_, ?_, ?_, ?_, ?_, ?_, ?_, ?_⟩ <;> first | exact Nat.zero_le _ | (dsimp only; omega)
           · rw [(ky_n h1 h2 h3 h4 h6).1]; refine ⟨?_, ?_, ?_, ?_, ?_, ?_, ?_, ?_, ?_, ?_, ?_, ?_, ?_, ?_, ?_⟩ <;> exact Nat.zero_le _
attribute [local irreducible] prOk prB kgR kgE
end Go.Proofs.Ytonchmcppekldaa.W
namespace Go.Proofs.Ytonchmcppekldaa.W
open Go Go.Eng Go.Byt
theorem P15.cblk_sub (u : P15) (x : Pr) : ∀ y, y ∈ cblk (.agg (u.cells x).toArray) → y ∈ u.blk := by
 intro y hy
 have h0 : ∀ (k : IntKind) (i : Int), vblk (.int k i) = [] := fun _ _ => rfl
 have hy : y ∈ (u.cells x).flatMap vblk := hy
 unfold P15.cells at hy
 simp only [List.flatMap_cons, List.flatMap_nil, h0, List.nil_append, List.append_nil, List.mem_append] at hy
 unfold P15.blk
 simp only [List.mem_append]
 exact hy
def z15 : P15 := ⟨.slice none 0 0, .slice none 0 0, .slice none 0 0, .slice none 0 0, .slice none 0 0, .slice none 0 0, .slice none 0 0, .slice none 0 0, .slice none 0 0, .slice none 0 0, .slice none 0 0, .slice none 0 0, .slice none 0 0, .slice none 0 0, .slice none 0 0⟩
theorem ms (w : World) : PrRd w z15 lF := ⟨Rd.nil _ _, Rd.nil _ _, Rd.nil _ _, Rd.nil _ _, Rd.nil _ _, Rd.nil _ _, Rd.nil _ _, Rd.nil _ _, Rd.nil _ _, Rd.nil _ _, Rd.nil _ _, Rd.nil _ _, Rd.nil _ _, Rd.nil _ _, Rd.nil _ _⟩
theorem pr0_len : PrLen lF := ⟨Nat.zero_le _, Nat.zero_le _, Nat.zero_le _, Nat.zero_le _, Nat.zero_le _, Nat.zero_le _, Nat.zero_le _, Nat.zero_le _, Nat.zero_le _, Nat.zero_le _, Nat.zero_le _, Nat.zero_le _, Nat.zero_le _, Nat.zero_le _, Nat.zero_le _⟩
theorem me (c : List UInt8) : PrLen (kgR c) := by
 have h := kgR_len c
 refine ⟨Nat.le_trans h.1 (by decide), Nat.le_trans h.2.1 (by decide), Nat.le_trans h.2.2.1 (by decide), Nat.le_trans h.2.2.2.1 (by decide), Nat.le_trans h.2.2.2.2.1 (by decide), Nat.le_trans h.2.2.2.2.2.1 (by decide), Nat.le_trans h.2.2.2.2.2.2.1 (by decide), Nat.le_trans h.2.2.2.2.2.2.2.1 (by decide), Nat.le_trans h.2.2.2.2.2.2.2.2.1 (by decide), Nat.le_trans h.2.2.2.2.2.2.2.2.2.1 (by decide), Nat.le_trans h.2.2.2.2.2.2.2.2.2.2.1 (by decide), Nat.le_trans h.2.2.2.2.2.2.2.2.2.2.2.1 (by decide), Nat.le_trans h.2.2.2.2.2.2.2.2.2.2.2.2.1 (by decide), Nat.le_trans h.2.2.2.2.2.2.2.2.2.2.2.2.2.1 (by decide), Nat.le_trans h.2.2.2.2.2.2.2.2.2.2.2.2.2.2 (by decide)⟩
theorem dT {xs : List It} (h : ∀ x ∈ xs, x.1.length ≤ 140737488351232 ∧ PrLen x.2) (rest : List UInt8) (e : Int) : ∀ x ∈ xs ++ [itX rest e], x.1.length ≤ 140737488351232 ∧ PrLen x.2 := by
 intro x hx
 rcases List.mem_append.1 hx with h1 | h1
 · exact h x h1
 · rw [List.mem_singleton] at h1; subst h1
   have := bU (itK rest e).2.1 (itK rest e).2.2
   unfold itX
   split
   · exact ⟨by simp, me _⟩
   · exact ⟨Nat.le_trans this (by decide), pr0_len⟩
theorem cy : ∀ x ∈ ([] : List It), x.1.length ≤ 140737488351232 ∧ PrLen x.2 := fun x hx => by cases hx
theorem i7 (v : Value) (xs : List UInt8) (w : World) (hv : RdB w v xs) (hx : xs.length ≤ 140737488355328) : Rets Try.prog 51 [v] w (fun u w' => OwnB w' w.heap.size u xs ∧ Keep [] w w') := by
 have hB : Keep [] w w := Keep.refl _ _
 refine ai Try.func51 rfl (by decide) Try.ntmps51 rfl (fun fin _ hfin => a5 (aZ (oga rfl rfl (a6 (a5 (aZ (ah (de (m := 0) (xs := []) (vs := []) aA cT (by decide) rfl rfl rfl (by first | (simp; done) | (intro v hv; rw [List.mem_singleton] at hv; subst hv; rfl)) (by decide)) rfl ?_)))))))
 rintro v1 w1 ⟨o1, nn1, lb1, k1, z1⟩
 have z_k1 := k1.size
 replace hB := hB.trans k1
 replace o1 : Own w1 _ _ 1 v1 0 (bv []) := o1
 refine ogm rfl rfl (ah (bW  aA cT rfl (by first | assumption | exact a8 _ _ _ _) rfl (by first | assumption | exact Own.rd ‹_› | exact Rd.oC ‹_› hB | exact Own.rd (Own.oC ‹_› hB)) (by first | omega | (simp only [cI, List.length_append, Int.toNat_natCast] at *; omega)) (by have := hB.size; omega)) rfl ?_)
 rintro v2 w2 ⟨o2, k2, lb2, nn2⟩
 have z_k2 := k2.size
 replace hB := hB.new k2 (fun x hx => .inl (o1.blk x hx).1)
 refine oga rfl rfl (a6 (al hfin Try.results51 rfl ?_))
 exact ⟨by simpa [OwnB] using o2, hB⟩
theorem mn (sv pv : Value) (ss : List It) (pa : List UInt8) (w : World) (hs : RdI w sv ss) (hp : RdB w pv pa) (hsm : ∀ x ∈ ss, x.1.length ≤ 140737488351232 ∧ PrLen x.2) (hcn : ss.length * 416 ≤ 140737488351232) (hil : pa.length ≤ 140737488355328) : Rets Try.prog 15 [.agg [sv, pv].toArray] w (fun r w' => ∃ q v, r = .agg [q, v].toArray ∧ OwI w' w.heap.size 101 q ss ∧ OwnB w' w.heap.size v pa ∧ Keep [] w w') := by
  have hB : Keep [] w w := Keep.refl _ _
  obtain ⟨css, hEl, hsl⟩ := hs
  refine ai Try.func15 rfl (by decide) Try.ntmps15 rfl (fun fin _ hfin => a5 (aZ (ah (bc (cs := [sv, pv]) rfl rfl) rfl ?_)))
  rintro _ w1 ⟨b1, rfl, eb1, hb1, k1, z1⟩
  have ge_b1 : w.heap.size ≤ b1 := by have := hB.size; omega
  replace hB := hB.trans k1
  clear eb1 z1
  refine ah (bG cj) rfl ?_
  rintro _ w2 ⟨b2, rfl, eb2, hb2, k2, z2⟩
  have ge_b2 : w.heap.size ≤ b2 := by have := hB.size; omega
  have ne_b1_b2 : b1 ≠ b2 := by have := hb1.lt; omega
  obtain ⟨hB, hb1⟩ := bX k2 hB hb1
  clear eb2 z2
  refine a6 (a5 (aZ (a7 (az 1 aN rfl am (by decide) rfl rfl) rfl (a7 (ae aw rfl hb1 rfl) rfl (ah (ab (vs := [_]) rfl (i7 _ _ _ (by first | assumption | exact Own.rd (by assumption) | exact Rd.oC (by assumption) hB | exact Own.rd (Own.oC (by assumption) hB)) hil)) rfl ?_)))))
  rintro v1 w3 ⟨o1, k3⟩
  have gl_o1 := hB.size
  have sb_b2_o1 := fun x hx => (show x ≠ b2 from by have h1 := (o1.blk x hx).1; have h2 := hb2.lt; omega)
  obtain ⟨hB, hb1, hb2⟩ := cS k3 hB hb1 hb2
  refine a7 (cA (idx := [1]) (xs := [.tmp 7]) (vs := [_]) (css := [[_]]) (out := [_, _]) pl55 cj rfl rfl ⟨Rd.cells (by first | assumption | exact Own.rd (by assumption) | exact Rd.oC (by assumption) hB | exact Own.rd (Own.oC (by assumption) hB)), trivial⟩ rfl rfl) rfl (ah (bG cj) rfl ?_)
  rintro _ w4 ⟨b3, rfl, eb3, hb3, k4, z3⟩
  have ge_b3 : w.heap.size ≤ b3 := by have := hB.size; omega
  have ne_b1_b3 : b1 ≠ b3 := by have := hb1.lt; omega
  have ne_b2_b3 : b2 ≠ b3 := by have := hb2.lt; omega
  have sb_b3_o1 := fun x hx => (show x ≠ b3 from by have := (o1.blk x hx).2; omega)
  obtain ⟨hb1, hb2⟩ := cm k4 hb1 hb2
  replace o1 := o1.oC k4
  replace hB := hB.trans k4
  clear eb3 z3
  refine an (bK cj rfl rfl rfl (by simp only [List.forall_mem_cons]; refine ⟨(by first | rfl | exact Rd.one (by first | assumption | exact Own.rd (by assumption) | exact Rd.oC (by assumption) hB | exact Own.rd (Own.oC (by assumption) hB))), (by first | rfl | exact Rd.one (by first | assumption | exact Own.rd (by assumption) | exact Rd.oC (by assumption) hB | exact Own.rd (Own.oC (by assumption) hB))), fun v hv => by cases hv⟩) hb3 rfl) ?_
  rintro _ w5 ⟨hb4, k5, z4⟩
  replace hb1 := hb1.keep k5 (nm ne_b1_b3)
  replace hb2 := hb2.keep k5 (nm ne_b2_b3)
  replace o1 := o1.keep k5 (fun x hx hm => sb_b3_o1 x hx (List.mem_singleton.1 hm))
  replace hB := hB.new k5 (nw ge_b3)
  clear z4
  replace hb4 : Bk w5 b3 _ [.slice none 0 0, v1] := hb4
  refine a6 (a5 (a5 (aZ (oga rfl rfl (a6 (bA ?_))))))
  obtain ⟨Z, hZ⟩ : ∃ Z, Z = w5.heap.size := ⟨_, rfl⟩
  have zb1 : b1 < Z := by have := hb1.lt; omega
  have zb2 : b2 < Z := by have := hb2.lt; omega
  have zb3 : b3 < Z := by have := hb4.lt; omega
  have zo_hbo : ∀ x, x ∈ vblk v1 → x < Z := fun x hx => by have := (o1.blk x hx).2; omega
  have zw := hB.size
  rw [← hZ] at zw
  refine cO (Γ := Nat × Value) (fun ⟨i, q⟩ => [(1, .pointer (some ⟨b1, 0, none⟩)), (2, .pointer (some ⟨b2, 0, none⟩)), (3, .pointer (some ⟨b3, 0, none⟩)), (4, .int .i64 (i : Int))]) (fun ⟨i, q⟩ W => i ≤ ss.length ∧ OwI W Z 101 q (ss.take i) ∧ OwnB W w.heap.size v1 pa ∧ Bk W b1 52 [sv, pv] ∧ Bk W b2 55 [.slice none 0 0, .slice none 0 0] ∧ Bk W b3 55 [q, v1] ∧ Z ≤ W.heap.size ∧ Keep [] w W) (fun ⟨i, q⟩ => ss.length - i) ⟨0, .slice none 0 0⟩ ⟨rfl, rfl, rfl, rfl, trivial⟩ (⟨by omega, j0 _ _ _, o1.lo gl_o1, hb1, hb2, hb4, by omega, hB⟩) ?_
  rintro ⟨i, q⟩ w6 ⟨hi0, ot, ovi, hbx1, hbx2, hbx3, hsz, hB⟩
  refine af [(1, .pointer (some ⟨b1, 0, none⟩)), (2, .pointer (some ⟨b2, 0, none⟩)), (3, .pointer (some ⟨b3, 0, none⟩)), (4, .int .i64 (i : Int))] ⟨rfl, rfl, rfl, rfl, trivial⟩ ?_
  have zo_ovi := zo_hbo
  refine a5 (a5 (aZ (ogm rfl rfl (a7 (az 0 aN rfl fE (by decide) rfl rfl) rfl (a7 (ae gQ rfl hbx1 rfl) rfl (a7 (ay aQ rfl (by first | assumption | exact Own.rd (by assumption) | exact Rd.oC (by assumption) hB | exact Own.rd (Own.oC (by assumption) hB))) rfl (a7 (cN rfl rfl) rfl (a6 ?_))))))))
  refine bF rfl (fun hc1 => ?_) (fun hc1 => ?_)
  · -- yes
    refine aj (a5 (bA (ca 18 [0, 1, 2, 3, 4, 5, 6, 7, 9, 10, 11, 12, 13, 14, 8, 15, 16, 17] [8, 15, 17] [] [] mixed [(3, _), (1, _), (4, _), (2, _)] ⟨rfl, rfl, rfl, rfl, trivial⟩ (by decide +kernel) (by decide) (by decide) ?_ (fun x hx => by cases hx) rfl (fun w7 k6 => ?_))))
    · intro q hq; cases hq
    replace ot := ot.oC k6
    replace ovi := ovi.oC k6
    obtain ⟨hB, hbx1, hbx2, hbx3⟩ := kq3 k6 hB hbx1 hbx2 hbx3
    obtain ⟨x, r, u, hx, hd, hr0, hu0⟩ := jG hEl (i := i) (by omega)
    have hxs := hsm x (List.mem_of_getElem? hx)
    have h0 := j6 hd
    have sn1 := Rd.some' hsl (by omega)
    have hqb := ot.blk
    have hsw := hsz
    refine ba 3 rfl rfl rfl rfl (fun W' kk => az 0 aP rfl fa (by decide) rfl rfl) (ba 16 rfl rfl rfl rfl (fun W' kk => ae jT rfl (Bk.oC hbx3 kk) rfl) (ba 1 rfl rfl rfl rfl (fun W' kk => az 0 aN rfl fE (by decide) rfl rfl) (ba 18 rfl rfl rfl rfl (fun W' kk => ae gQ rfl (Bk.oC hbx1 kk) rfl) (eC 4 rfl rfl rfl rfl rfl (iI 19 20 rfl rfl rfl rfl rfl (fun W' kk => eF aQ eB rfl (by first | exact Rd.oC (by assumption) kk | exact Rd.oC (Own.rd (by assumption)) kk | exact Rd.oC (Rd.oC (by assumption) hB) kk | exact Rd.oC (Own.rd (Own.oC (by assumption) hB)) kk) rfl (by omega)) (ba 21 rfl rfl rfl rfl (fun W' kk => jM aS rfl am (by decide) rfl sn1) (ba 22 rfl rfl rfl rfl (fun W' kk => jL aw rfl (by first | exact Rd.oC (by assumption) kk | exact Rd.oC (Own.rd (by assumption)) kk | exact Rd.oC (Rd.oC (by assumption) hB) kk | exact Rd.oC (Own.rd (Own.oC (by assumption) hB)) kk) h0.1) (ba 1 rfl rfl rfl rfl (fun W' kk => az 0 aN rfl fE (by decide) rfl rfl) ?_))))))))
    refine ba 25 rfl rfl rfl rfl (fun W' kk => ae gQ rfl (Bk.oC hbx1 kk) rfl) (eC 4 rfl rfl rfl rfl rfl (iI 26 27 rfl rfl rfl rfl rfl (fun W' kk => eF aQ eB rfl (by first | exact Rd.oC (by assumption) kk | exact Rd.oC (Own.rd (by assumption)) kk | exact Rd.oC (Rd.oC (by assumption) hB) kk | exact Rd.oC (Own.rd (Own.oC (by assumption) hB)) kk) rfl (by omega)) (ba 28 rfl rfl rfl rfl (fun W' kk => jM aS rfl bl (by decide) rfl sn1) (ba 29 rfl rfl rfl rfl (fun W' kk => lV (cs' := [.int .i64 x.2.kind, u.i, u.e, u.s, u.n, .int .i64 x.2.pk.leaf.src, u.h, u.g, u.gg, u.e2, u.s2, u.n2, .int .i64 x.2.lf.src, u.h2, u.g2, .int .i64 x.2.ix, u.y1, u.y2, u.y3]) dE bl rfl (Rd.oC (Rd.oC hsl hB) kk) h0.2 rfl (by decide)) (fo [(23, _)] rfl rfl ⟨rfl, trivial⟩ rfl (fun w9 k8 => ?_))))))
    replace ot := ot.oC k8
    replace ovi := ovi.oC k8
    obtain ⟨hB, hbx1, hbx2, hbx3⟩ := kq3 k8 hB hbx1 hbx2 hbx3
    refine (ab (vs := [_]) rfl (i7 _ _ _ (by first | assumption | exact Own.rd (by assumption) | exact Rd.oC (by assumption) hB | exact Own.rd (Own.oC (by assumption) hB)) (by omega))).mono ?_
    rintro v2 w8 ⟨o2, k7⟩
    refine ⟨k7, (fun x hx => ⟨.inr (o2.blk x (o2.rd.cblk ▸ hx)).1, (o2.blk x (o2.rd.cblk ▸ hx)).2⟩), ?_⟩
    have gl_o2 := hB.size
    replace ot := ot.oC k7
    replace ovi := ovi.oC k7
    obtain ⟨hB, hbx1, hbx2, hbx3⟩ := kq3 k7 hB hbx1 hbx2 hbx3
    refine fo [(30, _)] rfl rfl ⟨rfl, trivial⟩ rfl (fun w11 k10 => ?_)
    replace ot := ot.oC k10
    replace ovi := ovi.oC k10
    obtain ⟨hbx1, hbx2, hbx3⟩ := kp3 k10 hbx1 hbx2 hbx3
    replace o2 := o2.oC k10
    replace hB := hB.trans k10
    refine (ab (vs := [_]) rfl (prcopyP u x.2 _ (hu0.oC hB) hxs.2)).mono ?_
    rintro _ w10 ⟨u9, rfl, pr9, ub9, k9⟩
    refine ⟨k9, (fun y hy => by have h1 := ub9 y (P15.cblk_sub u9 x.2 y hy); exact ⟨.inr h1.1, h1.2⟩), ?_⟩
    replace ot := ot.oC k9
    replace ovi := ovi.oC k9
    obtain ⟨hbx1, hbx2, hbx3⟩ := kp3 k9 hbx1 hbx2 hbx3
    replace o2 := o2.oC k9
    replace hB := hB.trans k9
    refine iI 24 31 rfl rfl rfl rfl rfl (fun W' kk => cA (idx := [0, 1]) (xs := [.tmp 24, .tmp 31]) (vs := [_, _]) (css := [[_], [.int .i64 x.2.kind, u9.i, u9.e, u9.s, u9.n, .int .i64 x.2.pk.leaf.src, u9.h, u9.g, u9.gg, u9.e2, u9.s2, u9.n2, .int .i64 x.2.lf.src, u9.h2, u9.g2, .int .i64 x.2.ix, u9.y1, u9.y2, u9.y3]]) (out := [v2, .int .i64 x.2.kind, u9.i, u9.e, u9.s, u9.n, .int .i64 x.2.pk.leaf.src, u9.h, u9.g, u9.gg, u9.e2, u9.s2, u9.n2, .int .i64 x.2.lf.src, u9.h2, u9.g2, .int .i64 x.2.ix, u9.y1, u9.y2, u9.y3]) pl101 dZ rfl rfl ⟨Rd.cells (Own.rd o2), rfl, trivial⟩ rfl rfl) (fo [(32, _)] rfl rfl ⟨rfl, trivial⟩ rfl (fun w13 k12 => ?_))
    replace ot := ot.oC k12
    replace ovi := ovi.oC k12
    obtain ⟨hbx1, hbx2, hbx3⟩ := kp3 k12 hbx1 hbx2 hbx3
    replace o2 := o2.oC k12
    replace pr9 := pr9.oC k12
    replace hB := hB.trans k12
    refine (de (m := 1) (xs := [.tmp 32]) (vs := [_]) aR dZ (by decide) rfl rfl rfl (by first | (simp; done) | (intro v hv; rw [List.mem_singleton] at hv; subst hv; rfl)) (by decide)).mono ?_
    rintro v3 w12 ⟨o3, nn1, lb1, k11, z5⟩
    refine ⟨k11, (fun x hx => ⟨.inr (o3.blk x (o3.rd.cblk ▸ hx)).1, (o3.blk x (o3.rd.cblk ▸ hx)).2⟩), ?_⟩
    have gl_o3 := hB.size
    replace ot := ot.oC k11
    replace ovi := ovi.oC k11
    obtain ⟨hbx1, hbx2, hbx3⟩ := kp3 k11 hbx1 hbx2 hbx3
    replace o2 := o2.oC k11
    replace pr9 := pr9.oC k11
    replace hB := hB.trans k11
    refine dW (fun w14 k13 => ?_)
    replace ot := ot.oC k13
    replace ovi := ovi.oC k13
    obtain ⟨hbx1, hbx2, hbx3⟩ := kp3 k13 hbx1 hbx2 hbx3
    replace o2 := o2.oC k13
    replace pr9 := pr9.oC k13
    replace o3 := o3.oC k13
    replace hB := hB.trans k13
    refine ce ?_
    have zk6 := k6.size
    have zk7 := k7.size
    have zk8 := k8.size
    have zk9 := k9.size
    have zk10 := k10.size
    have zk11 := k11.size
    have zk12 := k12.size
    have zk13 := k13.size
    have hob : Rd _ 20 _ 1 (v2 :: u9.cells x.2) := o3.rd
    refine ah (iZ (r := v2) (U := u9) (z := x) aR dZ rfl rfl ot rfl hob o2.rd pr9 (fun y hy => by rcases List.mem_append.1 hy with hy | hy; (have h1 := o2.blk y hy; exact ⟨by omega, by omega, fun hm => by have h2 := (hqb y hm).2; omega⟩); (have h1 := ub9 y hy; exact ⟨by omega, by omega, fun hm => by have h2 := (hqb y hm).2; omega⟩)) (by rw [List.length_take]; omega) (by omega)) rfl ?_
    rintro q1 w15 ⟨ot1, k14, lb2⟩
    have zk_k14 := k14.size
    replace hB := hB.new k14 (fun x hx => .inl (by have := (ot.blk x hx).1; omega))
    replace ovi := ovi.keep k14 (fun x hx hm => by have h1 := (ot.blk _ hm).1; have h2 := zo_ovi x hx; omega)
    replace hbx1 := hbx1.keep k14 (fun hm => by have := (ot.blk _ hm).1; omega)
    replace hbx2 := hbx2.keep k14 (fun hm => by have := (ot.blk _ hm).1; omega)
    replace hbx3 := hbx3.keep k14 (fun hm => by have := (ot.blk _ hm).1; omega)
    refine a7 (az 0 aP rfl fa (by decide) rfl rfl) rfl (an (bV fa rfl rfl ot1.one hbx3 rfl) ?_)
    rintro _ w16 ⟨hb5, k15, z6⟩
    have zk_k15 := k15.size
    replace ovi := ovi.keep k15 (fun x hx hm => sb_b3_o1 x hx (List.mem_singleton.1 hm))
    replace hbx1 := hbx1.keep k15 (nm ne_b1_b3)
    replace hbx2 := hbx2.keep k15 (nm ne_b2_b3)
    replace ot1 := ot1.keep k15 (fun x hx hm => (fun x hx => (show x ≠ b3 from by omega)) x hx (List.mem_singleton.1 hm))
    replace hB := hB.new k15 (nw ge_b3)
    replace hb5 : Bk w16 b3 _ [q1, v1] := hb5
    clear z6
    refine a6 (af [(3, _), (1, _), (4, _), (2, _)] ⟨rfl, rfl, rfl, rfl, trivial⟩ (cG (aZ (ogm rfl rfl (a7 (bN rfl rfl (by omega)) rfl (oga rfl rfl (a6 (cP (Γ := Nat × Value) ⟨i + 1, q1⟩ ⟨rfl, rfl, rfl, rfl, trivial⟩ (by (try dsimp only); omega) (⟨by omega, by rw [cQ hx]; exact ot1, ovi, hbx1, hbx2, hb5, by omega, hB⟩)))))))))
  · -- no
    refine bd rfl (a5 (aZ (a7 (au (cs' := [_, _]) ft cj rfl hbx3 rfl rfl) rfl (an (bK cj rfl rfl rfl (by simp only [List.forall_mem_cons]; refine ⟨ot.one, Rd.one ovi.rd, fun v hv => by cases hv⟩) hbx2 rfl) ?_))))
    rintro _ w17 ⟨hb6, k16, z7⟩
    replace ot := ot.keep k16 (fun x hx hm => (fun x (hx : Z ≤ x) => (show x ≠ b2 from by omega)) x hx (List.mem_singleton.1 hm))
    replace ovi := ovi.keep k16 (fun x hx hm => sb_b2_o1 x hx (List.mem_singleton.1 hm))
    replace hB := hB.new k16 (nw ge_b2)
    clear z7
    replace hb6 : Bk w17 b2 _ [q, v1] := hb6
    refine a6 (dw hfin Try.results15 rfl (ar ft cj hb6 rfl)  ?_)
    have e : ss.take i = ss := List.take_of_length_le (by omega)
    rw [e] at ot
    exact ⟨_, _, rfl, ot.lo zw, ovi, hB⟩
theorem jJ (v : Value) (c : List UInt8) (w : World) (hv : RdB w v c) (hc : c.length ≤ 140737488351232) : Rets Try.prog 18 [v] w (fun r w' => ∃ q u, r = .tuple #[.agg [q, u].toArray, .int .i64 (bgE c)] ∧ RdI w' q (bgR c) ∧ RdB w' u (bgQ c) ∧ Keep [] w w') := by
  have hB : Keep [] w w := Keep.refl _ _
  refine ai Try.func18 rfl (by decide) Try.ntmps18 rfl (fun fin _ hfin => a5 (aZ (ah (bG cj) rfl ?_)))
  rintro _ w1 ⟨b1, rfl, eb1, hb1, k1, z1⟩
  have ge_b1 : w.heap.size ≤ b1 := by have := hB.size; omega
  replace hB := hB.trans k1
  clear eb1 z1
  refine oga rfl rfl (a6 (a5 (aZ (ogm rfl rfl ?_))))
  have zb1 := hb1.lt; have hs8 := hB.size
  refine ah (ab (vs := [_]) rfl (dl _ c _ (by first | assumption | exact Own.rd (by assumption) | exact Rd.oC (by assumption) hB | exact Own.rd (Own.oC (by assumption) hB)) (by omega))) rfl ?_
  rintro _ w2 ⟨p1, rfl, rr, k2⟩
  obtain ⟨hB, hb1⟩ := bX k2 hB hb1
  have gp1 := rr.1
  replace rr := rr.rdr
  refine oga rfl rfl (a6 (a5 (aZ (ogm rfl rfl (ah (ab (vs := [_]) rfl (bQ _ c 0 _ rr (by omega))) rfl ?_)))))
  rintro jw w3 ⟨_, rfl, ov1, rr, km1⟩
  have z_km1 := km1.size
  replace hb1 := hb1.keep km1 (fun hm => by have h9 := List.mem_singleton.1 hm; omega)
  replace hB := hB.new km1 (fun x hm => .inl (by have h9 := List.mem_singleton.1 hm; omega))
  have lt11 := rr.lt; have hlq := bU c 0
  refine ah (ab (vs := [_]) rfl (dl _ (rVec c 0).1 _ ov1.rd (by omega))) rfl ?_
  rintro _ w4 ⟨p2, rfl, rl, k3⟩
  replace hb1 := hb1.oC k3
  replace rr := rr.oC k3
  replace hB := hB.trans k3
  have gp2 := rl.1
  refine oga rfl rfl (a6 (a5 (aZ (ogm rfl rfl ?_))))
  have lt13 := rl.rdr.lt
  refine ah (ab (vs := [_]) rfl (bQ _ _ _ _ rr (by have h1 := bS c 0; omega))) rfl ?_
  rintro iw w5 ⟨_, rfl, oiv, rr, km2⟩
  have z_km2 := km2.size
  replace hb1 := hb1.keep km2 (fun hm => by have h9 := List.mem_singleton.1 hm; omega)
  replace rl := rl.keep km2 (fun x hx hm => by have h9 := List.mem_singleton.1 hm; omega)
  replace hB := hB.new km2 (fun x hm => .inl (by have h9 := List.mem_singleton.1 hm; omega))
  have np_ovi : ∀ x, x ∈ vblk iw → p2 < x := fun x hx => by have := (oiv.blk x hx).1; omega
  have gl_oiv := hB.size
  have go2 : ∀ x, x ∈ vblk iw → w.heap.size ≤ x := fun x hx => by have := np_ovi x hx; omega
  replace rl := rl.rdr
  refine a7 (cA (idx := [1]) (xs := [.tmp 16]) (vs := [_]) (css := [[_]]) (out := [_, _]) pl55 cj rfl rfl ⟨Rd.cells (by first | assumption | exact Own.rd (by assumption) | exact Rd.oC (by assumption) hB | exact Own.rd (Own.oC (by assumption) hB)), trivial⟩ rfl rfl) rfl ?_
  have lq_zp2 := rl.lt
  refine ah (bG cj) rfl ?_
  rintro _ w6 ⟨b2, rfl, eb2, hb2, k4, z2⟩
  have zp2 : p2 < b2 := by omega
  have ge_b2 : w.heap.size ≤ b2 := by have := hB.size; omega
  have ne_b1_b2 : b1 ≠ b2 := by have := hb1.lt; omega
  have sb_b2_oiv := fun x hx => (show x ≠ b2 from by have := (oiv.blk x hx).2; omega)
  replace hb1 := hb1.oC k4
  replace rl := rl.oC k4
  replace oiv := oiv.oC k4
  replace hB := hB.trans k4
  clear eb2 z2
  refine an (bK cj rfl rfl rfl (by simp only [List.forall_mem_cons]; refine ⟨(by first | rfl | exact Rd.one (by first | assumption | exact Own.rd (by assumption) | exact Rd.oC (by assumption) hB | exact Own.rd (Own.oC (by assumption) hB))), (by first | rfl | exact Rd.one (by first | assumption | exact Own.rd (by assumption) | exact Rd.oC (by assumption) hB | exact Own.rd (Own.oC (by assumption) hB))), fun v hv => by cases hv⟩) hb2 rfl) ?_
  rintro _ w7 ⟨hb3, k5, z3⟩
  replace hb1 := hb1.keep k5 (nm ne_b1_b2)
  replace rl := rl.keep k5 (fun x hx hm => (fun x (hx : x ≤ p2) => (show x ≠ b2 from by omega)) x hx (List.mem_singleton.1 hm))
  replace oiv := oiv.keep k5 (fun x hx hm => sb_b2_oiv x hx (List.mem_singleton.1 hm))
  replace hB := hB.new k5 (nw ge_b2)
  clear z3
  replace hb3 : Bk w7 b2 _ [.slice none 0 0, iw] := hb3
  refine a6 (af [(0, _), (2, _), (5, _), (6, _)] ⟨rfl, rfl, rfl, rfl, trivial⟩ (a5 (bA ?_)))
  obtain ⟨Z, hZ⟩ : ∃ Z, Z = w7.heap.size := ⟨_, rfl⟩
  have zc1 : b1 < Z := by have := hb1.lt; omega
  have zc2 : b2 < Z := by have := hb3.lt; omega
  have zp3 : p2 < Z := by omega
  have zo_ovi : ∀ x, x ∈ vblk iw → x < Z := fun x hx => by have := (oiv.blk x hx).2; omega
  have zw := hB.size
  rw [← hZ] at zw
  have hqo : (bgL c).1.length ≤ 65536 := bU c 0
  have hio : (bgP c).1.length ≤ 65536 := bU (rVec c 0).2.1 (rVec c 0).2.2
  refine cO (Γ := Value × List It × List UInt8 × Int) (fun ⟨q, xs, rest, e⟩ => [(0, v), (2, .pointer (some ⟨b1, 0, none⟩)), (5, .pointer (some ⟨p2, 0, none⟩)), (6, .pointer (some ⟨b2, 0, none⟩))]) (fun ⟨q, xs, rest, e⟩ W => ItJ (bgL c).1 xs rest e ∧ (∀ x ∈ xs, x.1.length ≤ 140737488351232 ∧ PrLen x.2) ∧ OwI W Z 101 q xs ∧ OwnB W 0 iw (bgP c).1 ∧ Bk W b1 55 [.slice none 0 0, .slice none 0 0] ∧ Bk W b2 55 [q, iw] ∧ Rdr W p2 rest e ∧ Z ≤ W.heap.size ∧ Keep [] w W) (fun ⟨q, xs, rest, e⟩ => itM rest e) ⟨.slice none 0 0, [], _, 0⟩ ⟨rfl, rfl, rfl, rfl, trivial⟩ (⟨mg _, cy, j0 _ _ _, oiv.lo (Nat.zero_le _), hb1, hb3, rl, by omega, hB⟩) ?_
  rintro ⟨q, xs, rest, e⟩ w8 ⟨hJ, hsm, ot, ovi, hbx1, hbx2, rl, hsz, hB⟩
  refine af [(0, v), (2, .pointer (some ⟨b1, 0, none⟩)), (5, .pointer (some ⟨p2, 0, none⟩)), (6, .pointer (some ⟨b2, 0, none⟩))] ⟨rfl, rfl, rfl, rfl, trivial⟩ ?_
  have hJ2 : xs.length + rest.length ≤ (bgL c).1.length + 1 := Nat.le_trans hJ.2 (by split <;> omega)
  refine a5 (a5 (aZ (ogm rfl rfl (ah (ab (vs := [_]) rfl (kE _ _ _ _ rl)) rfl ?_))))
  rintro _ _ ⟨rfl, rfl⟩
  refine a7 (dK rfl rfl) rfl (ogm rfl rfl (aq 21 true rfl (fun c1 hgc1 => a9 [(5, _)] (ad rfl rfl rfl hgc1) ⟨bB rfl, trivial⟩ (fun hw1 => bC rfl) rfl (dk [(22, _)] (ad rfl rfl rfl hgc1) ⟨ag rfl, trivial⟩ (fun hw2 => ab (vs := [_]) rfl (ew _ _ _ _ rl)) rfl (a9 [(23, _)] (ad rfl rfl rfl hgc1) ⟨ag rfl, trivial⟩ (fun hw3 => bE rfl rfl) rfl (a7 (bM rfl rfl hgc1) rfl (a6 (bD rfl (fun hc1 => ?_) (fun hc1 => ?_)))))))))
  · -- yes
    have hd1 := hc1
    try (simp only [Bool.and_eq_true, Bool.or_eq_true, decide_eq_true_eq, Bool.and_eq_false_iff, Bool.or_eq_false_iff, decide_eq_false_iff_not, Bool.not_eq_true', Bool.not_eq_false', Bool.not_eq_true, Bool.not_eq_false, ne_eq, Decidable.not_not, decide_true, decide_false, Bool.true_and, Bool.false_and, Bool.or_false, Bool.false_or, not_true_eq_false, false_or, or_false, true_and, and_true, not_false_eq_true, reduceCtorEq] at hd1)
    refine aj (bA (a5 (aZ ?_)))
    have lq_zp7 := rl.lt
    refine ah (bG dZ) rfl ?_
    rintro _ w9 ⟨b3, rfl, eb3, hb4, k6, z4⟩
    have zp7 : p2 < b3 := by omega
    have zg7 : w8.heap.size ≤ b3 := by omega
    have hsw := hsz
    have hqb := ot.blk
    have hK : Keep [p2] w8 w8 := Keep.refl _ _
    have ge_b3 : w.heap.size ≤ b3 := by have := hB.size; omega
    have ne_b1_b3 : b1 ≠ b3 := by have := hbx1.lt; omega
    have ne_b2_b3 : b2 ≠ b3 := by have := hbx2.lt; omega
    obtain ⟨hbx1, hbx2⟩ := cm k6 hbx1 hbx2
    replace rl := rl.oC k6
    replace hB := hB.trans k6
    replace hK := hK.trans k6.weak
    have zz_k6 := k6.size
    clear eb3 z4
    refine a6 (a5 (a5 (aZ (ogm rfl rfl (ah (ab (vs := [_, _]) rfl (iz p2 rest e _ rl)) rfl ?_)))))
    rintro _ w10 ⟨rfl, rl, km3⟩
    have z_km3 := km3.size
    replace hbx1 := hbx1.keep km3 (fun hm => by have h9 := List.mem_singleton.1 hm; omega)
    replace hbx2 := hbx2.keep km3 (fun hm => by have h9 := List.mem_singleton.1 hm; omega)
    replace hb4 := hb4.keep km3 (fun hm => by have h9 := List.mem_singleton.1 hm; omega)
    replace hB := hB.new km3 (fun x hm => .inl (by have h9 := List.mem_singleton.1 hm; omega))
    replace hK := hK.trans km3
    have rl : Rdr w10 p2 (itK rest e).2.1 (itK rest e).2.2 := rl
    have hl8 : (itK rest e).2.1.length ≤ rest.length := dH 8 rest e 1
    have zk_km3 := km3.size
    show OW _ _ _ _ _ _ ((27, .int .i64 (itK rest e).1) :: _) _
    refine ogm rfl rfl ?_
    have lv9 := rl.lt
    have lb9 := hb4.lt
    refine ah (ab (vs := [_]) rfl (bQ p2 _ _ _ rl (by omega))) rfl ?_
    rintro v9 w11 ⟨_, rfl, o9, rl, km4⟩
    have gl_o9 := hB.size
    have z_km4 := km4.size
    replace hbx1 := hbx1.keep km4 (fun hm => by have h9 := List.mem_singleton.1 hm; omega)
    replace hbx2 := hbx2.keep km4 (fun hm => by have h9 := List.mem_singleton.1 hm; omega)
    replace hb4 := hb4.keep km4 (fun hm => by have h9 := List.mem_singleton.1 hm; omega)
    replace hB := hB.new km4 (fun x hm => .inl (by have h9 := List.mem_singleton.1 hm; omega))
    replace hK := hK.trans km4
    have rl : Rdr w11 p2 (itV rest e).2.1 (itV rest e).2.2 := rl
    replace o9 : OwnB w11 w10.heap.size v9 (itV rest e).1 := o9
    have hv9 : (itV rest e).1.length ≤ 65536 := bU _ _
    have zk_km4 := km4.size
    refine oga rfl rfl (oga rfl rfl (a6 (af [(0, _), (2, _), (5, _), (6, _), (7, _), (8, _), (9, _)] ⟨rfl, rfl, rfl, rfl, rfl, rfl, rfl, trivial⟩ (a5 (aZ (ogm rfl rfl (a7 (bE rfl rfl) rfl (a6 ?_))))))))
    refine bF rfl (fun hc2 => ?_) (fun hc2 => ?_)
    · -- yes
      refine aZ (ogm rfl rfl ?_)
      have lr9 := rl.lt
      have lc9 := hb4.lt
      refine ah (ab (vs := [_]) rfl (kgetP _ (itV rest e).1 _ o9.rd (by omega))) rfl ?_
      rintro _ w12 ⟨u9, rfl, pr9, ub9, k7⟩
      obtain ⟨hbx1, hbx2⟩ := cm k7 hbx1 hbx2
      replace rl := rl.oC k7
      replace hb4 := hb4.oC k7
      replace o9 := o9.oC k7
      replace hB := hB.trans k7
      replace hK := hK.trans k7.weak
      have zz_k7 := k7.size
      have zk_k7 := k7.size
      refine ogm rfl rfl (a7 (bH (vs := [_, _]) rfl rfl) rfl (a7 (bH (vs := [_, _]) rfl rfl) rfl (a7 (az 1 aT rfl bz (by decide) rfl rfl) rfl (an (bK bz rfl rfl rfl pr9.cells_one hb4 rfl) ?_))))
      rintro _ w13 ⟨hb5, k8, z5⟩
      replace hbx1 := hbx1.keep k8 (nm ne_b1_b3)
      replace hbx2 := hbx2.keep k8 (nm ne_b2_b3)
      replace rl := rl.keep k8 (fun x hx hm => (fun x (hx : x ≤ p2) => (show x ≠ b3 from by omega)) x hx (List.mem_singleton.1 hm))
      replace o9 := o9.keep k8 (fun x hx hm => (fun x hx => (show x ≠ b3 from by have := (o9.blk x hx).1; omega)) x hx (List.mem_singleton.1 hm))
      replace pr9 := pr9.keep k8 (fun x hx hm => (fun x hx => (show x ≠ b3 from by have := (ub9 x hx).1; omega)) x hx (List.mem_singleton.1 hm))
      replace hB := hB.new k8 (nw ge_b3)
      replace hK := hK.new k8 (nw zg7)
      have zz_k8 := k8.size
      clear z5
      replace hb5 : Bk w13 b3 _ [.slice none 0 0, .int .i64 (kgR (itV rest e).1).kind, u9.i, u9.e, u9.s, u9.n, .int .i64 (kgR (itV rest e).1).pk.leaf.src, u9.h, u9.g, u9.gg, u9.e2, u9.s2, u9.n2, .int .i64 (kgR (itV rest e).1).lf.src, u9.h2, u9.g2, .int .i64 (kgR (itV rest e).1).ix, u9.y1, u9.y2, u9.y3] := hb5
      refine a6 (af [(0, _), (2, _), (5, _), (6, _), (7, _)] ⟨rfl, rfl, rfl, rfl, rfl, trivial⟩ (aZ (a7 (az 0 aP rfl fa (by decide) rfl rfl) rfl (a7 (ae jT rfl hbx2 rfl) rfl (a7 (au (cs' := [_, _, _, _, _, _, _, _, _, _, _, _, _, _, _, _, _, _, _, _]) oB dZ rfl hb5 rfl rfl) rfl (ah (de (m := 1) (xs := [.tmp 42]) (vs := [_]) aR dZ (by decide) rfl rfl rfl (by first | (simp; done) | (intro v hv; rw [List.mem_singleton] at hv; subst hv; rfl)) (by decide)) rfl ?_))))))
      rintro v1 w14 ⟨o1, nn1, lb1, k9, z6⟩
      have gl_o1 := hB.size
      obtain ⟨hbx1, hbx2⟩ := cm k9 hbx1 hbx2
      replace rl := rl.oC k9
      replace o9 := o9.oC k9
      replace pr9 := pr9.oC k9
      obtain ⟨hB, hb5⟩ := bX k9 hB hb5
      replace hK := hK.trans k9.weak
      have zz_k9 := k9.size
      replace ot := ot.keepL hK (fun x hm => by have h9 := List.mem_singleton.1 hm; omega)
      replace ovi := ovi.keep hK (fun x hx hm => by have h9 := List.mem_singleton.1 hm; have h8 := np_ovi x hx; omega)
      have zk_hK := hK.size
      have hob : Rd _ 20 _ 1 (.slice none 0 0 :: P15.cells u9 (kgR (itV rest e).1)) := o1.rd
      have hz : itX rest e = ([], (kgR (itV rest e).1)) := if_pos hc2
      refine ah (iZ (r := .slice none 0 0) (U := u9) (z := ([], (kgR (itV rest e).1))) aR dZ rfl rfl ot rfl hob (show RdB _ _ [] from Rd.nil _ _) pr9 (fun y hy => by rcases List.mem_append.1 hy with hy | hy; (cases hy); (have h1 := ub9 y hy; exact ⟨by omega, by omega, fun hm => by have h2 := (hqb y hm).2; omega⟩)) (by omega) (by omega)) rfl ?_
      rintro q1 w15 ⟨ot1, k10, lb2⟩
      have zk_k10 := k10.size
      replace hB := hB.new k10 (fun x hx => .inl (by have := (ot.blk x hx).1; omega))
      replace hbx1 := hbx1.keep k10 (fun hm => by have := (ot.blk _ hm).1; omega)
      replace hbx2 := hbx2.keep k10 (fun hm => by have := (ot.blk _ hm).1; omega)
      replace ovi := ovi.keep k10 (fun x hx hm => by have h1 := (ot.blk _ hm).1; have h2 := zo_ovi x hx; omega)
      replace rl := rl.keep k10 (fun x hx hm => by have := (ot.blk _ hm).1; omega)
      refine a7 (az 0 aP rfl fa (by decide) rfl rfl) rfl (an (bV fa rfl rfl ot1.one hbx2 rfl) ?_)
      rintro _ w16 ⟨hb6, k11, z7⟩
      have zk_k11 := k11.size
      replace hbx1 := hbx1.keep k11 (nm ne_b1_b2)
      replace ovi := ovi.keep k11 (fun x hx hm => sb_b2_oiv x hx (List.mem_singleton.1 hm))
      replace ot1 := ot1.keep k11 (fun x hx hm => (fun x hx => (show x ≠ b2 from by omega)) x hx (List.mem_singleton.1 hm))
      replace rl := rl.keep k11 (fun x hx hm => (fun x (hx : x ≤ p2) => (show x ≠ b2 from by omega)) x hx (List.mem_singleton.1 hm))
      replace hB := hB.new k11 (nw ge_b2)
      replace hb6 : Bk w16 b2 _ [q1, iw] := hb6
      clear z7
      refine a6 (cG ?_)
      have hlt := kK (rest := rest) (e := e) (by omega) (by omega)
      refine cP (Γ := Value × List It × List UInt8 × Int) ⟨q1, _, _, _⟩ ⟨rfl, rfl, rfl, rfl, trivial⟩ (by (try dsimp only); omega) (⟨kL hJ (by omega) (by omega), dT hsm rest e, by rw [hz]; exact ot1, ovi, hbx1, hb6, rl, by omega, hB⟩)
    · -- no
      refine aZ (ogm rfl rfl (a7 (az 0 aT rfl am (by decide) rfl rfl) rfl (an (bV am rfl rfl (Rd.one (by first | assumption | exact Own.rd (by assumption) | exact Rd.oC (by assumption) hB | exact Own.rd (Own.oC (by assumption) hB))) hb4 rfl) ?_)))
      rintro _ w17 ⟨hb7, k12, z8⟩
      replace hbx1 := hbx1.keep k12 (nm ne_b1_b3)
      replace hbx2 := hbx2.keep k12 (nm ne_b2_b3)
      replace rl := rl.keep k12 (fun x hx hm => (fun x (hx : x ≤ p2) => (show x ≠ b3 from by omega)) x hx (List.mem_singleton.1 hm))
      replace o9 := o9.keep k12 (fun x hx hm => (fun x hx => (show x ≠ b3 from by have := (o9.blk x hx).1; omega)) x hx (List.mem_singleton.1 hm))
      replace hB := hB.new k12 (nw ge_b3)
      replace hK := hK.new k12 (nw zg7)
      have zz_k12 := k12.size
      clear z8
      replace hb7 : Bk w17 b3 _ [v9, .int .i64 0, .slice none 0 0, .slice none 0 0, .slice none 0 0, .slice none 0 0, .int .i64 0, .slice none 0 0, .slice none 0 0, .slice none 0 0, .slice none 0 0, .slice none 0 0, .slice none 0 0, .int .i64 0, .slice none 0 0, .slice none 0 0, .int .i64 0, .slice none 0 0, .slice none 0 0, .slice none 0 0] := hb7
      refine a6 (aZ (a7 (az 0 aP rfl fa (by decide) rfl rfl) rfl (a7 (ae jT rfl hbx2 rfl) rfl (a7 (au (cs' := [_, _, _, _, _, _, _, _, _, _, _, _, _, _, _, _, _, _, _, _]) oB dZ rfl hb7 rfl rfl) rfl (ah (de (m := 1) (xs := [.tmp 42]) (vs := [_]) aR dZ (by decide) rfl rfl rfl (by first | (simp; done) | (intro v hv; rw [List.mem_singleton] at hv; subst hv; rfl)) (by decide)) rfl ?_)))))
      rintro v2 w18 ⟨o2, nn2, lb3, k13, z9⟩
      have gl_o2 := hB.size
      obtain ⟨hbx1, hbx2⟩ := cm k13 hbx1 hbx2
      replace rl := rl.oC k13
      replace o9 := o9.oC k13
      obtain ⟨hB, hb7⟩ := bX k13 hB hb7
      replace hK := hK.trans k13.weak
      have zz_k13 := k13.size
      replace ot := ot.keepL hK (fun x hm => by have h9 := List.mem_singleton.1 hm; omega)
      replace ovi := ovi.keep hK (fun x hx hm => by have h9 := List.mem_singleton.1 hm; have h8 := np_ovi x hx; omega)
      have zk_hK := hK.size
      have hob : Rd _ 20 _ 1 (v9 :: P15.cells z15 lF) := o2.rd
      have hz : itX rest e = ((itV rest e).1, lF) := if_neg hc2
      refine ah (iZ (r := v9) (U := z15) (z := ((itV rest e).1, lF)) aR dZ rfl rfl ot rfl hob o9.rd (ms _) (fun y hy => by rcases List.mem_append.1 hy with hy | hy; (have h1 := o9.blk y hy; exact ⟨by omega, by omega, fun hm => by have h2 := (hqb y hm).2; omega⟩); (cases hy)) (by omega) (by omega)) rfl ?_
      rintro q2 w19 ⟨ot2, k14, lb4⟩
      have zk_k14 := k14.size
      replace hB := hB.new k14 (fun x hx => .inl (by have := (ot.blk x hx).1; omega))
      replace hbx1 := hbx1.keep k14 (fun hm => by have := (ot.blk _ hm).1; omega)
      replace hbx2 := hbx2.keep k14 (fun hm => by have := (ot.blk _ hm).1; omega)
      replace ovi := ovi.keep k14 (fun x hx hm => by have h1 := (ot.blk _ hm).1; have h2 := zo_ovi x hx; omega)
      replace rl := rl.keep k14 (fun x hx hm => by have := (ot.blk _ hm).1; omega)
      refine a7 (az 0 aP rfl fa (by decide) rfl rfl) rfl (an (bV fa rfl rfl ot2.one hbx2 rfl) ?_)
      rintro _ w20 ⟨hb8, k15, z10⟩
      have zk_k15 := k15.size
      replace hbx1 := hbx1.keep k15 (nm ne_b1_b2)
      replace ovi := ovi.keep k15 (fun x hx hm => sb_b2_oiv x hx (List.mem_singleton.1 hm))
      replace ot2 := ot2.keep k15 (fun x hx hm => (fun x hx => (show x ≠ b2 from by omega)) x hx (List.mem_singleton.1 hm))
      replace rl := rl.keep k15 (fun x hx hm => (fun x (hx : x ≤ p2) => (show x ≠ b2 from by omega)) x hx (List.mem_singleton.1 hm))
      replace hB := hB.new k15 (nw ge_b2)
      replace hb8 : Bk w20 b2 _ [q2, iw] := hb8
      clear z10
      refine a6 (af [(0, _), (2, _), (5, _), (6, _)] ⟨rfl, rfl, rfl, rfl, trivial⟩ (cG ?_))
      have hlt := kK (rest := rest) (e := e) (by omega) (by omega)
      refine cP (Γ := Value × List It × List UInt8 × Int) ⟨q2, _, _, _⟩ ⟨rfl, rfl, rfl, rfl, trivial⟩ (by (try dsimp only); omega) (⟨kL hJ (by omega) (by omega), dT hsm rest e, by rw [hz]; exact ot2, ovi, hbx1, hb8, rl, by omega, hB⟩)
  · -- no
    have hd2 := hc1
    try (simp only [Bool.and_eq_true, Bool.or_eq_true, decide_eq_true_eq, Bool.and_eq_false_iff, Bool.or_eq_false_iff, decide_eq_false_iff_not, Bool.not_eq_true', Bool.not_eq_false', Bool.not_eq_true, Bool.not_eq_false, ne_eq, Decidable.not_not, decide_true, decide_false, Bool.true_and, Bool.false_and, Bool.or_false, Bool.false_or, not_true_eq_false, false_or, or_false, true_and, and_true, not_false_eq_true, reduceCtorEq] at hd2)
    refine bd rfl (a5 (aZ (a7 (au (cs' := [_, _]) ft cj rfl hbx2 rfl rfl) rfl (ogm rfl rfl ?_))))
    have hend : bgX c = xs := itJ_end hJ (by omega)
    have hgo : bgOk c = (bdOk xs (bgP c).1 && decide (bdB xs (bgP c).1 = c)) := by unfold bgOk; rw [hend]
    refine ah (ab (vs := [_, _, _]) rfl (nz q iw xs _ _ ot.rdI ovi.rd hsm v c (by first | assumption | exact Own.rd (by assumption) | exact Rd.oC (by assumption) hB | exact Own.rd (Own.oC (by assumption) hB)))) rfl ?_
    rintro _ w21 ⟨q3, u3, rfl, oq3, ou3, hcase, k16⟩
    replace ot := ot.oC k16
    replace ovi := ovi.oC k16
    obtain ⟨hB, hbx1⟩ := bX k16 hB hbx1
    refine a7 (bH (vs := [_, _]) rfl rfl) rfl (a7 (bH (vs := [_, _]) rfl rfl) rfl (an (bK cj rfl rfl rfl (by simp only [List.forall_mem_cons]; exact ⟨oq3, ou3, fun v hv => by cases hv⟩) hbx1 rfl) ?_))
    rintro _ w22 ⟨hb9, k17, z11⟩
    replace ot := ot.keep k17 (fun x hx hm => (fun x hx => (show x ≠ b1 from by omega)) x hx (List.mem_singleton.1 hm))
    replace ovi := ovi.keep k17 (fun x hx hm => (fun x hx => (show x ≠ b1 from by have := np_ovi x hx; omega)) x hx (List.mem_singleton.1 hm))
    replace hB := hB.new k17 (nw ge_b1)
    clear z11
    replace hb9 : Bk w22 b1 _ [q3, u3] := hb9
    refine oga rfl rfl (a6 (af [(2, _), (3, _)] ⟨rfl, rfl, trivial⟩ (bJ hfin Try.results18 rfl (ar ft cj hb9 rfl) rfl ?_)))
    rw [← hgo]
    rw [← hgo] at hcase
    rcases hcase with ⟨hg, rfl, rfl⟩ | ⟨hg, rfl, rfl⟩
    · exact ⟨_, _, by unfold bgE; rfl, by unfold bgR; rw [hg, hend]; exact ot.rdI, by unfold bgQ; rw [hg]; exact ovi.rd, hB⟩
    · exact ⟨_, _, by unfold bgE; rfl, by unfold bgR; rw [hg]; exact jW _, by unfold bgQ; rw [hg]; exact Rd.nil _ _, hB⟩
def itDm (ok : Bool) (rest : List UInt8) : Nat := bif ok then rest.length + 1 else 0
theorem kN {rest : List UInt8} {e : Int} (hr : 0 < rest.length) : itDm (itG rest e) (itV rest e).2.1 < itDm true rest := by
 cases hg : itG rest e with
 | false => exact Nat.succ_pos _
 | true => have := gE hr (ne hg).2.2.2; show (itV rest e).2.1.length + 1 < rest.length + 1; omega
theorem jF : ∀ xs : List It, xs.length ≤ (xs.flatMap itB).length
 | [] => Nat.zero_le _
 | x :: xs => by have := j8 x; have := jF xs; rw [List.flatMap_cons, List.length_append, List.length_cons]; omega
theorem mi {c : List UInt8} {xs : List It} {rest : List UInt8} {e : Int} (h : ItD c xs true rest e) : e = 0 ∧ xs.length + rest.length ≤ (bgL c).1.length := by
 obtain ⟨h1, h2, _⟩ := h.1 rfl
 have := jF xs
 rw [h2, List.length_append]; exact ⟨h1, by omega⟩
theorem itG_yes {rest : List UInt8} {e : Int} (hk : (itK rest e).1 = 1) : ((decide ((itV rest e).2.2 = 0) && decide (kgE (itV rest e).1 = 0)) && (decide ((itK rest e).1 = 1) || (decide ((itK rest e).1 = 2) && decide (((itV rest e).1.length : Int) = 32)))) = itG rest e := by
 unfold itG; rw [if_pos hk, decide_eq_true hk, Bool.true_or, Bool.true_or]
theorem itG_no {rest : List UInt8} {e : Int} (hk : ¬ (itK rest e).1 = 1) : ((decide ((itV rest e).2.2 = 0) && decide ((0 : Int) = 0)) && (decide ((itK rest e).1 = 1) || (decide ((itK rest e).1 = 2) && decide (((itV rest e).1.length : Int) = 32)))) = itG rest e := by
 unfold itG; rw [if_neg hk, decide_eq_false hk]
 have : decide (((itV rest e).1.length : Int) = 32) = decide ((itV rest e).1.length = 32) := decide_eq_decide.2 (by omega)
 rw [this]
theorem mU (v : Value) (c : List UInt8) (w : World) (hv : RdB w v c) (hc : c.length ≤ 140737488351232) : Rets Try.prog 19 [v] w (fun r w' => ∃ q u, r = .tuple #[.agg [q, u].toArray, .int .i64 (bgE c)] ∧ RdI w' q (bgR c) ∧ RdB w' u (bgQ c) ∧ Keep [] w w') := by
 have hB : Keep [] w w := Keep.refl _ _
 refine ai Try.func19 rfl (by decide) Try.ntmps19 rfl (fun fin _ hfin => a5 (aZ (ah (bG eY) rfl ?_)))
 rintro _ w1 ⟨b1, rfl, eb1, hb1, k1, z1⟩
 have ge_b1 : w.heap.size ≤ b1 := by have := hB.size; omega
 replace hB := hB.trans k1
 clear eb1 z1
 refine oga rfl rfl (a6 (a5 (aZ (ogm rfl rfl ?_))))
 have zb1 := hb1.lt; have hs8 := hB.size
 refine ah (ab (vs := [_]) rfl (eK _ c _ (by first | assumption | exact Own.rd ‹_› | exact Rd.oC ‹_› hB | exact Own.rd (Own.oC ‹_› hB)) (by omega))) rfl ?_
 rintro _ w2 ⟨p1, rfl, rr, k2⟩
 obtain ⟨hB, hb1⟩ := bX k2 hB hb1
 have gp1 := rr.1
 replace rr := rr.rdr
 refine oga rfl rfl (a6 (a5 (aZ (ogm rfl rfl (ah (ab (vs := [_]) rfl (bY _ c 0 _ rr)) rfl ?_)))))
 rintro jw w3 ⟨_, rfl, ov1, rr, km1⟩
 have z_km1 := km1.size
 replace hb1 := hb1.keep km1 (fun hm => by have h9 := List.mem_singleton.1 hm; omega)
 replace hB := hB.new km1 (fun x hm => .inl (by have h9 := List.mem_singleton.1 hm; omega))
 have lt11 := rr.lt; have hlq := bU c 0
 refine ah (ab (vs := [_]) rfl (eK _ (rVec c 0).1 _ ov1.rd (by omega))) rfl ?_
 rintro _ w4 ⟨p2, rfl, rl, k3⟩
 replace hb1 := hb1.oC k3
 replace rr := rr.oC k3
 replace hB := hB.trans k3
 have gp2 := rl.1
 have p12 : p1 < p2 := by omega
 refine oga rfl rfl (a6 (a5 (aZ (ogm rfl rfl ?_))))
 have lt13 := rl.rdr.lt
 refine ah (ab (vs := [_]) rfl (bY _ _ _ _ rr)) rfl ?_
 rintro iw w5 ⟨_, rfl, oiv, rr, km2⟩
 have z_km2 := km2.size
 replace hb1 := hb1.keep km2 (fun hm => by have h9 := List.mem_singleton.1 hm; omega)
 replace rl := rl.keep km2 (fun x hx hm => by have h9 := List.mem_singleton.1 hm; omega)
 replace hB := hB.new km2 (fun x hm => .inl (by have h9 := List.mem_singleton.1 hm; omega))
 have np_ovi : ∀ x, x ∈ vblk iw → p2 < x := fun x hx => by have := (oiv.blk x hx).1; omega
 have gl_oiv := hB.size
 have go2 : ∀ x, x ∈ vblk iw → w.heap.size ≤ x := fun x hx => by have := np_ovi x hx; omega
 replace rl := rl.rdr
 refine a7 (cA (idx := [1]) (xs := [.tmp 18]) (vs := [_]) (css := [[_]]) (out := [_, _]) pl52 eY rfl rfl ⟨Rd.cells (by first | assumption | exact Own.rd ‹_› | exact Rd.oC ‹_› hB | exact Own.rd (Own.oC ‹_› hB)), trivial⟩ rfl rfl) rfl ?_
 have lq_zp2 := rl.lt
 refine ah (bG eY) rfl ?_
 rintro _ w6 ⟨b2, rfl, eb2, hb2, k4, z2⟩
 have zp2 : p2 < b2 := by omega
 have ge_b2 : w.heap.size ≤ b2 := by have := hB.size; omega
 have ne_b1_b2 : b1 ≠ b2 := by have := hb1.lt; omega
 have sb_b2_oiv := fun x hx => (show x ≠ b2 from by have := (oiv.blk x hx).2; omega)
 replace hb1 := hb1.oC k4
 replace rr := rr.oC k4
 replace rl := rl.oC k4
 replace oiv := oiv.oC k4
 replace hB := hB.trans k4
 clear eb2 z2
 refine an (bK eY rfl rfl rfl (by simp only [List.forall_mem_cons]; refine ⟨(by first | rfl | exact Rd.one (by first | assumption | exact Own.rd ‹_› | exact Rd.oC ‹_› hB | exact Own.rd (Own.oC ‹_› hB))), (by first | rfl | exact Rd.one (by first | assumption | exact Own.rd ‹_› | exact Rd.oC ‹_› hB | exact Own.rd (Own.oC ‹_› hB))), fun v hv => by cases hv⟩) hb2 rfl) ?_
 rintro _ w7 ⟨hb3, k5, z3⟩
 replace hb1 := hb1.keep k5 (nm ne_b1_b2)
 replace rr := rr.keep k5 (fun x hx hm => (fun x (hx : x ≤ p1) => (show x ≠ b2 from by omega)) x hx (List.mem_singleton.1 hm))
 replace rl := rl.keep k5 (fun x hx hm => (fun x (hx : x ≤ p2) => (show x ≠ b2 from by omega)) x hx (List.mem_singleton.1 hm))
 replace oiv := oiv.keep k5 (fun x hx hm => sb_b2_oiv x hx (List.mem_singleton.1 hm))
 replace hB := hB.new k5 (nw ge_b2)
 clear z3
 replace hb3 : Bk w7 b2 _ [.slice none 0 0, iw] := hb3
 refine a6 (af [(2, _), (4, _), (5, _), (6, _)] ⟨rfl, rfl, rfl, rfl, trivial⟩ (a5 (aZ (ogm rfl rfl (ah (ab (vs := [_]) rfl (cl _ _ _ _ rr)) rfl ?_)))))
 rintro _ w8 ⟨rfl, k6⟩
 replace hb1 := hb1.oC k6
 replace rr := rr.oC k6
 replace rl := rl.oC k6
 replace oiv := oiv.oC k6
 obtain ⟨hB, hb3⟩ := bX k6 hB hb3
 refine a7 (bE rfl rfl) rfl (oga rfl rfl (a6 (a5 (bA ?_))))
 obtain ⟨Z, hZ⟩ : ∃ Z, Z = w8.heap.size := ⟨_, rfl⟩
 have zc1 : b1 < Z := by have := hb1.lt; omega
 have zc2 : b2 < Z := by have := hb3.lt; omega
 have zp3 : p2 < Z := by omega
 have zo_ovi : ∀ x, x ∈ vblk iw → x < Z := fun x hx => by have := (oiv.blk x hx).2; omega
 have zw := hB.size
 rw [← hZ] at zw
 have hqo : (bgL c).1.length ≤ 65536 := bU c 0
 have hio : (bgP c).1.length ≤ 65536 := bU (rVec c 0).2.1 (rVec c 0).2.2
 refine cO (Γ := Value × List It × List UInt8 × Int × Bool) (fun ⟨q, xs, rest, e, ok⟩ => [(2, .pointer (some ⟨b1, 0, none⟩)), (5, .pointer (some ⟨p2, 0, none⟩)), (6, .pointer (some ⟨b2, 0, none⟩)), (7, .bool ok)]) (fun ⟨q, xs, rest, e, ok⟩ W => ItD c xs ok rest e ∧ (∀ x ∈ xs, x.1.length ≤ 140737488351232 ∧ PrLen x.2) ∧ OwI W Z 99 q xs ∧ OwnB W 0 iw (bgP c).1 ∧ Bk W b1 52 [.slice none 0 0, .slice none 0 0] ∧ Bk W b2 52 [q, iw] ∧ RdR W p2 rest e ∧ Z ≤ W.heap.size ∧ Keep [] w W) (fun ⟨q, xs, rest, e, ok⟩ => itDm ok rest) ⟨.slice none 0 0, [], _, 0, _⟩ ⟨rfl, rfl, rfl, rfl, trivial⟩ (⟨mh c, cy, j0 _ _ _, oiv.lo (Nat.zero_le _), hb1, hb3, rl, by omega, hB⟩) ?_
 rintro ⟨q, xs, rest, e, ok⟩ w9 ⟨hJ, hsm, ot, ovi, hbx1, hbx2, rl, hsz, hB⟩
 refine af [(2, .pointer (some ⟨b1, 0, none⟩)), (5, .pointer (some ⟨p2, 0, none⟩)), (6, .pointer (some ⟨b2, 0, none⟩)), (7, .bool ok)] ⟨rfl, rfl, rfl, rfl, trivial⟩ (a5 (a5 (aZ (ogm rfl rfl (ogm rfl rfl (aq 24 true rfl (fun c1 hgc1 => a9 [(5, _)] (ad rfl rfl rfl hgc1) ⟨bB rfl, trivial⟩ (fun hw1 => bC rfl) rfl (cC [(25, _)] (ad rfl rfl rfl hgc1) ⟨ag rfl, trivial⟩ (fun hw2 => ab (vs := [_]) rfl (dB _ _ _ _ rl)) rfl ?_))))))))
 rintro w11 k8
 replace ot := ot.oC k8
 replace ovi := ovi.oC k8
 obtain ⟨hbx1, hbx2⟩ := cm k8 hbx1 hbx2
 replace rl := rl.oC k8
 replace hB := hB.trans k8
 refine a9 [(26, _)] (ad rfl rfl rfl hgc1) ⟨ag rfl, trivial⟩ (fun hw3 => dK rfl rfl) rfl (a7 (bM rfl rfl hgc1) rfl (a6 (bD rfl (fun hc1 => ?_) (fun hc1 => ?_))))
 ·
  have hd1 := hc1
  try (simp only [Bool.and_eq_true, Bool.or_eq_true, decide_eq_true_eq, Bool.and_eq_false_iff, Bool.or_eq_false_iff, decide_eq_false_iff_not, Bool.not_eq_true', Bool.not_eq_false', Bool.not_eq_true, Bool.not_eq_false, ne_eq, Decidable.not_not, decide_true, decide_false, Bool.true_and, Bool.false_and, Bool.or_false, Bool.false_or, not_true_eq_false, false_or, or_false, true_and, and_true, not_false_eq_true, reduceCtorEq] at hd1)
  refine aj (bA (a5 (aZ (ogm rfl rfl ?_))))
  obtain ⟨hok9, hr9'⟩ := (Bool.and_eq_true _ _ ▸ hc1 : _ ∧ _)
  subst hok9
  have hr9 : 0 < rest.length := by have := of_decide_eq_true hr9'; omega
  obtain ⟨he0, hJ2⟩ := mi hJ
  have zB9 := k8.size
  have hsw : Z ≤ w11.heap.size := by omega
  have hqb := ot.blk
  have hK : Keep [p2] w11 w11 := Keep.refl _ _
  refine ah (ab (vs := [_, _]) rfl (iG p2 rest e _ rl)) rfl ?_
  rintro _ w12 ⟨rfl, rl, km3⟩
  have z_km3 := km3.size
  replace hbx1 := hbx1.keep km3 (fun hm => by have h9 := List.mem_singleton.1 hm; omega)
  replace hbx2 := hbx2.keep km3 (fun hm => by have h9 := List.mem_singleton.1 hm; omega)
  replace hB := hB.new km3 (fun x hm => .inl (by have h9 := List.mem_singleton.1 hm; omega))
  replace hK := hK.trans km3
  have rl : RdR w12 p2 (itK rest e).2.1 (itK rest e).2.2 := rl
  have hl8 : (itK rest e).2.1.length ≤ rest.length := dH 8 rest e 1
  have zk_km3 := km3.size
  show OW _ _ _ _ _ _ ((30, .int .i64 (itK rest e).1) :: _) _
  refine oga rfl rfl (a6 (a5 (aZ (ogm rfl rfl ?_))))
  have lv9 := rl.lt
  refine ah (ab (vs := [_]) rfl (bY p2 _ _ _ rl)) rfl ?_
  rintro v9 w13 ⟨_, rfl, o9, rl, km4⟩
  have gl_o9 := hB.size
  have z_km4 := km4.size
  replace hbx1 := hbx1.keep km4 (fun hm => by have h9 := List.mem_singleton.1 hm; omega)
  replace hbx2 := hbx2.keep km4 (fun hm => by have h9 := List.mem_singleton.1 hm; omega)
  replace hB := hB.new km4 (fun x hm => .inl (by have h9 := List.mem_singleton.1 hm; omega))
  replace hK := hK.trans km4
  have rl : RdR w13 p2 (itV rest e).2.1 (itV rest e).2.2 := rl
  replace o9 : OwnB w13 w12.heap.size v9 (itV rest e).1 := o9
  have hv9 : (itV rest e).1.length ≤ 65536 := bU _ _
  have zk_km4 := km4.size
  refine oga rfl rfl (a6 (af [(2, _), (5, _), (6, _), (8, _), (9, _)] ⟨rfl, rfl, rfl, rfl, rfl, trivial⟩ (a5 (aZ (a7 (cA (idx := []) (xs := []) (vs := []) (css := []) (out := [_, _, _, _, _, _, _, _, _, _, _, _, _, _, _, _, _, _, _, _]) pl99 eB rfl rfl trivial rfl rfl) rfl ?_)))))
  have lq_zp7 := rl.lt
  refine ah (bG eB) rfl ?_
  rintro _ w14 ⟨b3, rfl, eb3, hb4, k9, z4⟩
  have zp7 : p2 < b3 := by omega
  have zg7 : w11.heap.size ≤ b3 := by have := hK.size; omega
  have ge_b3 : w.heap.size ≤ b3 := by have := hB.size; omega
  have ne_b1_b3 : b1 ≠ b3 := by have := hbx1.lt; omega
  have ne_b2_b3 : b2 ≠ b3 := by have := hbx2.lt; omega
  have sb_b3_o9 := fun x hx => (show x ≠ b3 from by have := (o9.blk x hx).2; omega)
  obtain ⟨hbx1, hbx2⟩ := cm k9 hbx1 hbx2
  replace rl := rl.oC k9
  replace o9 := o9.oC k9
  replace hB := hB.trans k9
  replace hK := hK.trans k9.weak
  have zz_k9 := k9.size
  clear eb3 z4
  refine an (bK eB rfl rfl rfl (by simp only [List.forall_mem_cons]; refine ⟨rfl, rfl, rfl, rfl, rfl, rfl, rfl, rfl, rfl, rfl, rfl, rfl, rfl, rfl, rfl, rfl, rfl, rfl, rfl, rfl, fun v hv => by cases hv⟩) hb4 rfl) ?_
  rintro _ w15 ⟨hb5, k10, z5⟩
  replace hbx1 := hbx1.keep k10 (nm ne_b1_b3)
  replace hbx2 := hbx2.keep k10 (nm ne_b2_b3)
  replace rl := rl.keep k10 (fun x hx hm => (fun x (hx : x ≤ p2) => (show x ≠ b3 from by omega)) x hx (List.mem_singleton.1 hm))
  replace o9 := o9.keep k10 (fun x hx hm => sb_b3_o9 x hx (List.mem_singleton.1 hm))
  replace hB := hB.new k10 (nw ge_b3)
  replace hK := hK.new k10 (nw zg7)
  have zz_k10 := k10.size
  clear z5
  replace hb5 : Bk w15 b3 _ [.slice none 0 0, .int .i64 0, .slice none 0 0, .slice none 0 0, .slice none 0 0, .slice none 0 0, .int .i64 0, .slice none 0 0, .slice none 0 0, .slice none 0 0, .slice none 0 0, .slice none 0 0, .slice none 0 0, .int .i64 0, .slice none 0 0, .slice none 0 0, .int .i64 0, .slice none 0 0, .slice none 0 0, .slice none 0 0] := hb5
  refine a6 (a5 (aZ (oga rfl rfl (a6 (a5 (a5 (aZ (ogm rfl rfl (a7 (bE rfl rfl) rfl (a6 (bF rfl (fun hc2 => ?_) (fun hc2 => ?_))))))))))))
  ·
   refine aZ (ogm rfl rfl ?_)
   have lr9 := rl.lt
   have lc9 := hb5.lt
   refine ah (ab (vs := [_]) rfl (rgetP _ (itV rest e).1 _ o9.rd (by omega))) rfl ?_
   rintro _ w16 ⟨u9, rfl, pr9, ub9, k11⟩
   obtain ⟨hbx1, hbx2⟩ := cm k11 hbx1 hbx2
   replace rl := rl.oC k11
   replace o9 := o9.oC k11
   obtain ⟨hB, hb5⟩ := bX k11 hB hb5
   replace hK := hK.trans k11.weak
   have zz_k11 := k11.size
   have zk_k11 := k11.size
   refine ogm rfl rfl (a7 (bH (vs := [_, _]) rfl rfl) rfl (a7 (bH (vs := [_, _]) rfl rfl) rfl (a7 (az 1 aS rfl bl (by decide) rfl rfl) rfl (an (bK bl rfl rfl rfl pr9.cells_one hb5 rfl) ?_))))
   rintro _ w17 ⟨hb6, k12, z6⟩
   replace hbx1 := hbx1.keep k12 (nm ne_b1_b3)
   replace hbx2 := hbx2.keep k12 (nm ne_b2_b3)
   replace rl := rl.keep k12 (fun x hx hm => (fun x (hx : x ≤ p2) => (show x ≠ b3 from by omega)) x hx (List.mem_singleton.1 hm))
   replace o9 := o9.keep k12 (fun x hx hm => sb_b3_o9 x hx (List.mem_singleton.1 hm))
   replace pr9 := pr9.keep k12 (fun x hx hm => (fun x hx => (show x ≠ b3 from by have := (ub9 x hx).1; omega)) x hx (List.mem_singleton.1 hm))
   replace hB := hB.new k12 (nw ge_b3)
   replace hK := hK.new k12 (nw zg7)
   have zz_k12 := k12.size
   clear z6
   replace hb6 : Bk w17 b3 _ [.slice none 0 0, .int .i64 (kgR (itV rest e).1).kind, u9.i, u9.e, u9.s, u9.n, .int .i64 (kgR (itV rest e).1).pk.leaf.src, u9.h, u9.g, u9.gg, u9.e2, u9.s2, u9.n2, .int .i64 (kgR (itV rest e).1).lf.src, u9.h2, u9.g2, .int .i64 (kgR (itV rest e).1).ix, u9.y1, u9.y2, u9.y3] := hb6
   refine oga rfl rfl (a6 (a5 (aZ ?_)))
   have rl2 := rl
   obtain ⟨bs, at_, bw, hbp, _⟩ := rl2
   refine ogm rfl rfl (a7 (ao rfl) rfl (a7 (az 2 aF rfl bh (by decide) rfl rfl) rfl (a7 (ae cY rfl hbp rfl) rfl (a7 (bE rfl rfl) rfl (ogm rfl rfl (aq 49 true rfl (fun c2 hgc2 => a9 [(11, _)] (ad rfl rfl rfl hgc2) ⟨bB rfl, trivial⟩ (fun hw4 => bC rfl) rfl (a9 [(50, _)] (ad rfl rfl rfl hgc2) ⟨ag rfl, trivial⟩ (fun hw5 => bE rfl rfl) rfl (a7 (bM rfl rfl hgc2) rfl (ogm rfl rfl (aq 53 true rfl (fun c3 hgc3 => ?_))))))))))))
   refine a9 [(8, _)] (ad rfl rfl rfl hgc3) ⟨bB rfl, trivial⟩ (fun hw6 => bC rfl) rfl (a9 [(54, _)] (ad rfl rfl rfl hgc3) ⟨ag rfl, trivial⟩ (fun hw7 => bE rfl rfl) rfl (a9 [(55, _)] (ad rfl rfl rfl hgc3) ⟨ag rfl, trivial⟩ (fun hw8 => bC rfl) rfl (ci 56 false rfl (fun c4 hgc4 => a9 [(8, _)] (cE rfl rfl rfl hgc4) ⟨bB rfl, trivial⟩ (fun hw9 => bC rfl) rfl (a9 [(57, _)] (cE rfl rfl rfl hgc4) ⟨ag rfl, trivial⟩ (fun hw10 => bE rfl rfl) rfl (a9 [(58, _)] (cE rfl rfl rfl hgc4) ⟨ag rfl, trivial⟩ (fun hw11 => bC rfl) rfl (ci 59 true rfl (fun c5 hgc5 => a9 [(9, _)] (cE rfl rfl rfl hgc5) ⟨bB rfl, trivial⟩ (fun hw12 => bC rfl) rfl ?_))))))))
   refine a9 [(60, _)] (cE rfl rfl rfl hgc5) ⟨ag rfl, trivial⟩ (fun hw13 => ay aA rfl o9.rd) rfl (a9 [(61, _)] (cE rfl rfl rfl hgc5) ⟨ag rfl, trivial⟩ (fun hw14 => bE rfl rfl) rfl (cu (cE rfl rfl rfl hgc4) (ag rfl) rfl hgc5 rfl (nQ (ad rfl rfl rfl hgc3) (ag rfl) rfl hgc4 rfl (a7 (bM rfl rfl hgc3) rfl (oga rfl rfl (a6 (af [(2, _), (5, _), (6, _), (10, _), (7, _)] ⟨rfl, rfl, rfl, rfl, rfl, trivial⟩ (aZ (cv [(7, .bool (itG rest e)), (2, _), (5, _), (6, _), (10, _)] ⟨congrArg (fun b => some (Value.bool b)) (itG_yes hc2), rfl, rfl, rfl, rfl, trivial⟩ (a7 (az 0 aN rfl fE (by decide) rfl rfl) rfl (a7 (ae gQ rfl hbx2 rfl) rfl ?_)))))))))))
   refine a7 (au (cs' := [_, _, _, _, _, _, _, _, _, _, _, _, _, _, _, _, _, _, _, _]) ag99 eB rfl hb6 rfl rfl) rfl (ah (de (m := 1) (xs := [.tmp 68]) (vs := [_]) aQ eB (by decide) rfl rfl rfl (by first | (simp; done) | (intro v hv; rw [List.mem_singleton] at hv; subst hv; rfl)) (by decide)) rfl ?_)
   rintro v1 w18 ⟨o1, nn1, lb1, k13, z7⟩
   have gl_o1 := hB.size
   obtain ⟨hbx1, hbx2⟩ := cm k13 hbx1 hbx2
   replace rl := rl.oC k13
   replace o9 := o9.oC k13
   replace pr9 := pr9.oC k13
   obtain ⟨hB, hb6⟩ := bX k13 hB hb6
   replace hK := hK.trans k13.weak
   have zz_k13 := k13.size
   replace ot := ot.keepL hK (fun x hm => by have h9 := List.mem_singleton.1 hm; omega)
   replace ovi := ovi.keep hK (fun x hx hm => by have h9 := List.mem_singleton.1 hm; have h8 := np_ovi x hx; omega)
   have zk_hK := hK.size
   have hob : Rd _ 20 _ 1 (.slice none 0 0 :: P15.cells u9 (kgR (itV rest e).1)) := o1.rd
   have hz : itX rest e = ([], (kgR (itV rest e).1)) := if_pos hc2
   refine ah (iZ (r := .slice none 0 0) (U := u9) (z := ([], (kgR (itV rest e).1))) aQ eB rfl rfl ot rfl hob (show RdB _ _ [] from Rd.nil _ _) pr9 (fun y hy => by rcases List.mem_append.1 hy with hy | hy; (cases hy); (have h1 := ub9 y hy; exact ⟨by omega, by omega, fun hm => by have h2 := (hqb y hm).2; omega⟩)) (by omega) (by omega)) rfl ?_
   rintro q1 w19 ⟨ot1, k14, lb2⟩
   have zk_k14 := k14.size
   replace hB := hB.new k14 (fun x hx => .inl (by have := (ot.blk x hx).1; omega))
   replace hbx1 := hbx1.keep k14 (fun hm => by have := (ot.blk _ hm).1; omega)
   replace hbx2 := hbx2.keep k14 (fun hm => by have := (ot.blk _ hm).1; omega)
   replace ovi := ovi.keep k14 (fun x hx hm => by have h1 := (ot.blk _ hm).1; have h2 := zo_ovi x hx; omega)
   replace rl := rl.keep k14 (fun x hx hm => by have := (ot.blk _ hm).1; omega)
   refine a7 (az 0 aN rfl fE (by decide) rfl rfl) rfl (an (bV fE rfl rfl ot1.one hbx2 rfl) ?_)
   rintro _ w20 ⟨hb7, k15, z8⟩
   have zk_k15 := k15.size
   replace hbx1 := hbx1.keep k15 (nm ne_b1_b2)
   replace ovi := ovi.keep k15 (fun x hx hm => sb_b2_oiv x hx (List.mem_singleton.1 hm))
   replace ot1 := ot1.keep k15 (fun x hx hm => (fun x hx => (show x ≠ b2 from by omega)) x hx (List.mem_singleton.1 hm))
   replace rl := rl.keep k15 (fun x hx hm => (fun x (hx : x ≤ p2) => (show x ≠ b2 from by omega)) x hx (List.mem_singleton.1 hm))
   replace hB := hB.new k15 (nw ge_b2)
   replace hb7 : Bk w20 b2 _ [q1, iw] := hb7
   clear z8
   refine a6 (cG (cP (Γ := Value × List It × List UInt8 × Int × Bool) ⟨q1, _, _, _, itG rest e⟩ ⟨rfl, rfl, rfl, rfl, trivial⟩ (kN hr9) (⟨kM hJ (by omega), dT hsm rest e, by rw [hz]; exact ot1, ovi, hbx1, hb7, rl, by omega, hB⟩)))
  ·
   refine aZ (ogm rfl rfl (a7 (az 0 aS rfl am (by decide) rfl rfl) rfl (an (bV am rfl rfl (Rd.one (by first | assumption | exact Own.rd ‹_› | exact Rd.oC ‹_› hB | exact Own.rd (Own.oC ‹_› hB))) hb5 rfl) ?_)))
   rintro _ w21 ⟨hb8, k16, z9⟩
   replace hbx1 := hbx1.keep k16 (nm ne_b1_b3)
   replace hbx2 := hbx2.keep k16 (nm ne_b2_b3)
   replace rl := rl.keep k16 (fun x hx hm => (fun x (hx : x ≤ p2) => (show x ≠ b3 from by omega)) x hx (List.mem_singleton.1 hm))
   replace o9 := o9.keep k16 (fun x hx hm => sb_b3_o9 x hx (List.mem_singleton.1 hm))
   replace hB := hB.new k16 (nw ge_b3)
   replace hK := hK.new k16 (nw zg7)
   have zz_k16 := k16.size
   clear z9
   replace hb8 : Bk w21 b3 _ [v9, .int .i64 0, .slice none 0 0, .slice none 0 0, .slice none 0 0, .slice none 0 0, .int .i64 0, .slice none 0 0, .slice none 0 0, .slice none 0 0, .slice none 0 0, .slice none 0 0, .slice none 0 0, .int .i64 0, .slice none 0 0, .slice none 0 0, .int .i64 0, .slice none 0 0, .slice none 0 0, .slice none 0 0] := hb8
   refine a6 (a5 (aZ ?_))
   have rl2 := rl
   obtain ⟨bs, at_, bw, hbp, _⟩ := rl2
   refine ogm rfl rfl (a7 (ao rfl) rfl (a7 (az 2 aF rfl bh (by decide) rfl rfl) rfl (a7 (ae cY rfl hbp rfl) rfl (a7 (bE rfl rfl) rfl (ogm rfl rfl (aq 49 true rfl (fun c6 hgc6 => a9 [(11, _)] (ad rfl rfl rfl hgc6) ⟨bB rfl, trivial⟩ (fun hw15 => bC rfl) rfl (a9 [(50, _)] (ad rfl rfl rfl hgc6) ⟨ag rfl, trivial⟩ (fun hw16 => bE rfl rfl) rfl (a7 (bM rfl rfl hgc6) rfl (ogm rfl rfl (aq 53 true rfl (fun c7 hgc7 => ?_))))))))))))
   refine a9 [(8, _)] (ad rfl rfl rfl hgc7) ⟨bB rfl, trivial⟩ (fun hw17 => bC rfl) rfl (a9 [(54, _)] (ad rfl rfl rfl hgc7) ⟨ag rfl, trivial⟩ (fun hw18 => bE rfl rfl) rfl (a9 [(55, _)] (ad rfl rfl rfl hgc7) ⟨ag rfl, trivial⟩ (fun hw19 => bC rfl) rfl (ci 56 false rfl (fun c8 hgc8 => a9 [(8, _)] (cE rfl rfl rfl hgc8) ⟨bB rfl, trivial⟩ (fun hw20 => bC rfl) rfl (a9 [(57, _)] (cE rfl rfl rfl hgc8) ⟨ag rfl, trivial⟩ (fun hw21 => bE rfl rfl) rfl (a9 [(58, _)] (cE rfl rfl rfl hgc8) ⟨ag rfl, trivial⟩ (fun hw22 => bC rfl) rfl (ci 59 true rfl (fun c9 hgc9 => a9 [(9, _)] (cE rfl rfl rfl hgc9) ⟨bB rfl, trivial⟩ (fun hw23 => bC rfl) rfl ?_))))))))
   refine a9 [(60, _)] (cE rfl rfl rfl hgc9) ⟨ag rfl, trivial⟩ (fun hw24 => ay aA rfl o9.rd) rfl (a9 [(61, _)] (cE rfl rfl rfl hgc9) ⟨ag rfl, trivial⟩ (fun hw25 => bE rfl rfl) rfl (cu (cE rfl rfl rfl hgc8) (ag rfl) rfl hgc9 rfl (nQ (ad rfl rfl rfl hgc7) (ag rfl) rfl hgc8 rfl (a7 (bM rfl rfl hgc7) rfl (oga rfl rfl (a6 (af [(2, _), (5, _), (6, _), (10, _), (7, _)] ⟨rfl, rfl, rfl, rfl, rfl, trivial⟩ (aZ (cv [(7, .bool (itG rest e)), (2, _), (5, _), (6, _), (10, _)] ⟨congrArg (fun b => some (Value.bool b)) (itG_no hc2), rfl, rfl, rfl, rfl, trivial⟩ (a7 (az 0 aN rfl fE (by decide) rfl rfl) rfl (a7 (ae gQ rfl hbx2 rfl) rfl ?_)))))))))))
   refine a7 (au (cs' := [_, _, _, _, _, _, _, _, _, _, _, _, _, _, _, _, _, _, _, _]) ag99 eB rfl hb8 rfl rfl) rfl (ah (de (m := 1) (xs := [.tmp 68]) (vs := [_]) aQ eB (by decide) rfl rfl rfl (by first | (simp; done) | (intro v hv; rw [List.mem_singleton] at hv; subst hv; rfl)) (by decide)) rfl ?_)
   rintro v2 w22 ⟨o2, nn2, lb3, k17, z10⟩
   have gl_o2 := hB.size
   obtain ⟨hbx1, hbx2⟩ := cm k17 hbx1 hbx2
   replace rl := rl.oC k17
   replace o9 := o9.oC k17
   replace hB := hB.trans k17
   replace hK := hK.trans k17.weak
   have zz_k17 := k17.size
   replace ot := ot.keepL hK (fun x hm => by have h9 := List.mem_singleton.1 hm; omega)
   replace ovi := ovi.keep hK (fun x hx hm => by have h9 := List.mem_singleton.1 hm; have h8 := np_ovi x hx; omega)
   have zk_hK := hK.size
   have hob : Rd _ 20 _ 1 (v9 :: P15.cells z15 lF) := o2.rd
   have hz : itX rest e = ((itV rest e).1, lF) := if_neg hc2
   refine ah (iZ (r := v9) (U := z15) (z := ((itV rest e).1, lF)) aQ eB rfl rfl ot rfl hob o9.rd (ms _) (fun y hy => by rcases List.mem_append.1 hy with hy | hy; (have h1 := o9.blk y hy; exact ⟨by omega, by omega, fun hm => by have h2 := (hqb y hm).2; omega⟩); (cases hy)) (by omega) (by omega)) rfl ?_
   rintro q2 w23 ⟨ot2, k18, lb4⟩
   have zk_k18 := k18.size
   replace hB := hB.new k18 (fun x hx => .inl (by have := (ot.blk x hx).1; omega))
   replace hbx1 := hbx1.keep k18 (fun hm => by have := (ot.blk _ hm).1; omega)
   replace hbx2 := hbx2.keep k18 (fun hm => by have := (ot.blk _ hm).1; omega)
   replace ovi := ovi.keep k18 (fun x hx hm => by have h1 := (ot.blk _ hm).1; have h2 := zo_ovi x hx; omega)
   replace rl := rl.keep k18 (fun x hx hm => by have := (ot.blk _ hm).1; omega)
   refine a7 (az 0 aN rfl fE (by decide) rfl rfl) rfl (an (bV fE rfl rfl ot2.one hbx2 rfl) ?_)
   rintro _ w24 ⟨hb9, k19, z11⟩
   have zk_k19 := k19.size
   replace hbx1 := hbx1.keep k19 (nm ne_b1_b2)
   replace ovi := ovi.keep k19 (fun x hx hm => sb_b2_oiv x hx (List.mem_singleton.1 hm))
   replace ot2 := ot2.keep k19 (fun x hx hm => (fun x hx => (show x ≠ b2 from by omega)) x hx (List.mem_singleton.1 hm))
   replace rl := rl.keep k19 (fun x hx hm => (fun x (hx : x ≤ p2) => (show x ≠ b2 from by omega)) x hx (List.mem_singleton.1 hm))
   replace hB := hB.new k19 (nw ge_b2)
   replace hb9 : Bk w24 b2 _ [q2, iw] := hb9
   clear z11
   refine a6 (cG (cP (Γ := Value × List It × List UInt8 × Int × Bool) ⟨q2, _, _, _, itG rest e⟩ ⟨rfl, rfl, rfl, rfl, trivial⟩ (kN hr9) (⟨kM hJ (by omega), dT hsm rest e, by rw [hz]; exact ot2, ovi, hbx1, hb9, rl, by omega, hB⟩)))
 ·
  have hd2 := hc1
  try (simp only [Bool.and_eq_true, Bool.or_eq_true, decide_eq_true_eq, Bool.and_eq_false_iff, Bool.or_eq_false_iff, decide_eq_false_iff_not, Bool.not_eq_true', Bool.not_eq_false', Bool.not_eq_true, Bool.not_eq_false, ne_eq, Decidable.not_not, decide_true, decide_false, Bool.true_and, Bool.false_and, Bool.or_false, Bool.false_or, not_true_eq_false, false_or, or_false, true_and, and_true, not_false_eq_true, reduceCtorEq] at hd2)
  refine bd rfl (a5 (a5 (aZ ?_)))
  have hend := itD_end hJ (fun h9 => absurd hc1 (by simp [h9.1, h9.2]))
  refine ogm rfl rfl (a7 (cd rfl) rfl (ogm rfl rfl (aq 74 false rfl (fun c10 hgc10 => a9 [(6, _)] (ad rfl rfl rfl hgc10) ⟨bB rfl, trivial⟩ (fun hw26 => au (cs' := [_, _]) ig eY rfl hbx2 rfl rfl) rfl (cC [(75, _)] (ad rfl rfl rfl hgc10) ⟨ag rfl, trivial⟩ (fun hw27 => ab (vs := [_]) rfl (gc _ _ xs (bgP c).1 _ ot.rdI ovi.rd hsm)) rfl ?_)))))
  rintro w26 k21
  replace ot := ot.oC k21
  replace ovi := ovi.oC k21
  obtain ⟨hB, hbx1, hbx2⟩ := cS k21 hB hbx1 hbx2
  refine a9 [(76, _)] (ad rfl rfl rfl hgc10) ⟨ag rfl, trivial⟩ (fun hw28 => cd rfl) rfl (a7 (bP rfl rfl hgc10) rfl (a6 (af [(2, _), (6, _), (78, _)] ⟨rfl, rfl, rfl, trivial⟩ (bD rfl (fun hc3 => ?_) (fun hc3 => ?_)))))
  ·
   have hd3 := hc3
   try (simp only [Bool.and_eq_true, Bool.or_eq_true, decide_eq_true_eq, Bool.and_eq_false_iff, Bool.or_eq_false_iff, decide_eq_false_iff_not, Bool.not_eq_true', Bool.not_eq_false', Bool.not_eq_true, Bool.not_eq_false, ne_eq, Decidable.not_not, decide_true, decide_false, Bool.true_and, Bool.false_and, Bool.or_false, Bool.false_or, not_true_eq_false, false_or, or_false, true_and, and_true, not_false_eq_true, reduceCtorEq] at hd3)
   refine a5 (aZ (a7 (cA (idx := []) (xs := []) (vs := []) (css := []) (out := [_, _]) pl52 eY rfl rfl trivial rfl rfl) rfl (an (bK eY rfl rfl rfl (by simp only [List.forall_mem_cons]; refine ⟨rfl, rfl, fun v hv => by cases hv⟩) hbx1 rfl) ?_)))
   rintro _ w27 ⟨hb10, k22, z12⟩
   replace ot := ot.keep k22 (fun x hx hm => (fun x (hx : Z ≤ x) => (show x ≠ b1 from by omega)) x hx (List.mem_singleton.1 hm))
   replace ovi := ovi.keep k22 (fun x hx hm => (fun x hx => (show x ≠ b1 from by have := np_ovi x hx; omega)) x hx (List.mem_singleton.1 hm))
   replace hbx2 := hbx2.keep k22 (nm (Ne.symm ne_b1_b2))
   replace hB := hB.new k22 (nw ge_b1)
   clear z12
   replace hb10 : Bk w27 b1 _ [.slice none 0 0, .slice none 0 0] := hb10
   refine oga rfl rfl (a6 (bJ hfin Try.results19 rfl (ar ig eY hb10 rfl) rfl ?_))
   have hg : bgOk c = false := by rw [hend.1]; exact Bool.and_eq_false_iff.2 (by simpa using hc3)
   exact ⟨_, _, by unfold bgE; rw [hg]; rfl, by unfold bgR; rw [hg]; exact jW _, by unfold bgQ; rw [hg]; exact Rd.nil _ _, hB⟩
  ·
   have hd4 := hc3
   try (simp only [Bool.and_eq_true, Bool.or_eq_true, decide_eq_true_eq, Bool.and_eq_false_iff, Bool.or_eq_false_iff, decide_eq_false_iff_not, Bool.not_eq_true', Bool.not_eq_false', Bool.not_eq_true, Bool.not_eq_false, ne_eq, Decidable.not_not, decide_true, decide_false, Bool.true_and, Bool.false_and, Bool.or_false, Bool.false_or, not_true_eq_false, false_or, or_false, true_and, and_true, not_false_eq_true, reduceCtorEq] at hd4)
   refine aj (a5 (aZ (a7 (au (cs' := [_, _]) ig eY rfl hbx2 rfl rfl) rfl (an (bK eY rfl rfl rfl (by simp only [List.forall_mem_cons]; exact ⟨ot.one, Rd.one ovi.rd, fun v hv => by cases hv⟩) hbx1 rfl) ?_))))
   rintro _ w28 ⟨hb11, k23, z13⟩
   replace ot := ot.keep k23 (fun x hx hm => (fun x (hx : Z ≤ x) => (show x ≠ b1 from by omega)) x hx (List.mem_singleton.1 hm))
   replace ovi := ovi.keep k23 (fun x hx hm => (fun x hx => (show x ≠ b1 from by have := np_ovi x hx; omega)) x hx (List.mem_singleton.1 hm))
   replace hB := hB.new k23 (nw ge_b1)
   clear z13
   replace hb11 : Bk w28 b1 _ [q, iw] := hb11
   refine oga rfl rfl (a6 (bJ hfin Try.results19 rfl (ar ig eY hb11 rfl) rfl ?_))
   have hg2 : (ok && bdOk xs (bgP c).1) = true := by simpa using hc3
   have hg : bgOk c = true := by rw [hend.1]; exact hg2
   have hx9 := hend.2 (Bool.and_eq_true_iff.1 hg2).1
   exact ⟨_, _, by unfold bgE; rw [hg]; rfl, by unfold bgR; rw [hg, cond_true, hx9]; exact ot.rdI, by unfold bgQ; rw [hg]; exact ovi.rd, hB⟩
theorem mp (sv iv : Value) (ss : List Tri) (info : List UInt8) (w : World) (hs : RdT w sv ss) (hi : RdB w iv info) (hsm : ∀ x ∈ ss, x.1.length ≤ 140737488351232 ∧ x.2.1.length ≤ 140737488351232 ∧ x.2.2.length ≤ 140737488351232) (v : Value) (c : List UInt8) (hv : RdB w v c) : Rets Try.prog 93 [.agg [sv, iv].toArray, .func (.func 94) #[] #[], v] w (fun r w' => r = .tuple #[.agg (bif (welOk ss info && decide (welB ss info = c)) then [sv, iv] else [.slice none 0 0, .slice none 0 0]).toArray, .int .i64 (bif (welOk ss info && decide (welB ss info = c)) then 0 else 21)] ∧ Keep [] w w') := by
 have hB : Keep [] w w := Keep.refl _ _
 have hs' := hs
 obtain ⟨css, hEl, hsl⟩ := hs'
 refine ai Try.func93 rfl (by decide) Try.ntmps93 rfl (fun fin _ hfin => a5 (aZ (ah (bc (cs := [sv, iv]) rfl rfl) rfl ?_)))
 rintro _ w1 ⟨b1, rfl, eb1, hb1, k1, z1⟩
 have ge_b1 : w.heap.size ≤ b1 := by have := hB.size; omega
 replace hB := hB.trans k1
 clear eb1 z1
 refine ah (bG dL) rfl ?_
 rintro _ w2 ⟨b2, rfl, eb2, hb2, k2, z2⟩
 have ge_b2 : w.heap.size ≤ b2 := by have := hB.size; omega
 have ne_b1_b2 : b1 ≠ b2 := by have := hb1.lt; omega
 obtain ⟨hB, hb1⟩ := bX k2 hB hb1
 clear eb2 z2
 refine oga rfl rfl (a6 (a5 (aZ (ah (bG dL) rfl ?_))))
 rintro _ w3 ⟨b3, rfl, eb3, hb3, k3, z3⟩
 obtain ⟨hB, hb1, hb2⟩ := cS k3 hB hb1 hb2
 clear eb3 z3
 refine a6 (a5 (a5 (aZ (ogm rfl rfl (a7 (au (cs' := [_, _]) ib dL rfl hb1 rfl rfl) rfl (ah (gy rfl rfl (ng sv iv ss info _ (RdT.oC hs hB) (Rd.oC hi hB) hsm)) rfl ?_))))))
 rintro _ w4 ⟨v1, rfl, o1, k4⟩
 obtain ⟨hB, hb1, hb2, hb3⟩ := kq3 k4 hB hb1 hb2 hb3
 refine ogm rfl rfl (a7 (bH (vs := [_, _]) rfl rfl) rfl (a7 (bH (vs := [_, _]) rfl rfl) rfl (oga rfl rfl (oga rfl rfl (a6 (a5 (aZ (ogm rfl rfl (a7 (bn rfl rfl) rfl (ogm rfl rfl (aq 19 false rfl (fun c1 hgc1 => a9 [(9, _)] (ad rfl rfl rfl hgc1) ⟨bB rfl, trivial⟩ (fun hw1 => bC rfl) rfl (a9 [(2, _)] (ad rfl rfl rfl hgc1) ⟨bB rfl, trivial⟩ (fun hw2 => bC rfl) rfl (dk [(20, _), (21, _)] (ad rfl rfl rfl hgc1) ⟨ag rfl, ag rfl, trivial⟩ (fun hw3 => ab (vs := [_, _]) rfl (lw _ _ (welB ss info) c _ (o1.rd) (hv.oC hB))) rfl (a9 [(22, _)] (ad rfl rfl rfl hgc1) ⟨ag rfl, trivial⟩ (fun hw4 => eu rfl) rfl (a7 (bP rfl rfl hgc1) rfl ?_))))))))))))))))
 refine a6 (af [(3, _), (6, _), (8, _), (24, _)] ⟨rfl, rfl, rfl, rfl, trivial⟩ (bD rfl (fun hc1 => ?_) (fun hc1 => ?_)))
 ·
  have hd1 := hc1
  try (simp only [Bool.and_eq_true, Bool.or_eq_true, decide_eq_true_eq, Bool.and_eq_false_iff, Bool.or_eq_false_iff, decide_eq_false_iff_not, Bool.not_eq_true', Bool.not_eq_false', Bool.not_eq_true, Bool.not_eq_false, ne_eq, Decidable.not_not, decide_true, decide_false, Bool.true_and, Bool.false_and, Bool.or_false, Bool.false_or, not_true_eq_false, false_or, or_false, true_and, and_true, not_false_eq_true, reduceCtorEq] at hd1)
  refine a5 (aZ (a7 (au (cs' := [_, _]) ib dL rfl hb3 rfl rfl) rfl (an (bK dL rfl rfl rfl (by simp only [List.forall_mem_cons]; refine ⟨rfl, rfl, fun v hv => by cases hv⟩) hb2 rfl) ?_)))
  rintro _ w5 ⟨hb4, k5, z4⟩
  replace hb1 := hb1.keep k5 (nm ne_b1_b2)
  replace hB := hB.new k5 (nw ge_b2)
  clear z4
  replace hb4 : Bk w5 b2 _ [.slice none 0 0, .slice none 0 0] := hb4
  refine oga rfl rfl (a6 (bJ hfin Try.results93 rfl (ar ib dL hb4 rfl) rfl ?_))
  have hok : (welOk ss info && decide (welB ss info = c)) = false := by
   unfold welE at hc1
   cases hw : welOk ss info <;> simp_all
  exact ⟨by rw [hok]; rfl, hB⟩
 ·
  have hd2 := hc1
  try (simp only [Bool.and_eq_true, Bool.or_eq_true, decide_eq_true_eq, Bool.and_eq_false_iff, Bool.or_eq_false_iff, decide_eq_false_iff_not, Bool.not_eq_true', Bool.not_eq_false', Bool.not_eq_true, Bool.not_eq_false, ne_eq, Decidable.not_not, decide_true, decide_false, Bool.true_and, Bool.false_and, Bool.or_false, Bool.false_or, not_true_eq_false, false_or, or_false, true_and, and_true, not_false_eq_true, reduceCtorEq] at hd2)
  refine aj (a5 (aZ (a7 (au (cs' := [_, _]) ib dL rfl hb1 rfl rfl) rfl (an (bK dL rfl rfl rfl (by simp only [List.forall_mem_cons]; refine ⟨Rd.one hsl, Rd.one hi, fun v hv => by cases hv⟩) hb2 rfl) ?_))))
  rintro _ w6 ⟨hb5, k6, z5⟩
  replace hB := hB.new k6 (nw ge_b2)
  clear z5
  replace hb5 : Bk w6 b2 _ [sv, iv] := hb5
  refine oga rfl rfl (a6 (bJ hfin Try.results93 rfl (ar ib dL hb5 rfl) rfl ?_))
  have hok : (welOk ss info && decide (welB ss info = c)) = true := by
   unfold welE at hc1
   cases hw : welOk ss info <;> simp_all
  exact ⟨by rw [hok]; rfl, hB⟩
theorem again_k (sv iv : Value) (ss : List Tri) (info : List UInt8) (w : World) (hs : RdT w sv ss) (hi : RdB w iv info) (hsm : ∀ x ∈ ss, x.1.length ≤ 140737488351232 ∧ x.2.1.length ≤ 140737488351232 ∧ x.2.2.length ≤ 140737488351232) (v : Value) (c : List UInt8) (hv : RdB w v c) : Rets Try.prog 93 [.agg [sv, iv].toArray, .func (.func 94) #[] #[], v] w (fun r w' => ∃ q u, r = .tuple #[.agg [q, u].toArray, .int .i64 (bif (welOk ss info && decide (welB ss info = c)) then 0 else 21)] ∧ q.oneCell' = true ∧ u.oneCell' = true ∧ ((welOk ss info && decide (welB ss info = c)) = true ∧ q = sv ∧ u = iv ∨ (welOk ss info && decide (welB ss info = c)) = false ∧ q = .slice none 0 0 ∧ u = .slice none 0 0) ∧ Keep [] w w') := by
  have h1 : sv.oneCell' = true := by obtain ⟨_, _, h⟩ := hs; exact h.one
  refine (mp sv iv ss info w hs hi hsm v c hv).mono fun r w' ⟨h, k⟩ => ?_
  cases hOK : (welOk ss info && decide (welB ss info = c))
  · rw [hOK] at h; exact ⟨_, _, h, rfl, rfl, .inr ⟨rfl, rfl, rfl⟩, k⟩
  · rw [hOK] at h; exact ⟨_, _, h, h1, hi.one, .inl ⟨rfl, rfl, rfl⟩, k⟩
theorem rdT_nil (w : World) : RdT w (.slice none 0 0) [] := ⟨[], gx _ _, Rd.nil _ _⟩
theorem nj (v : Value) (c : List UInt8) (w : World) (hv : RdB w v c) (hc : c.length ≤ 140737488351232) : Rets Try.prog 59 [v] w (fun r w' => ∃ q u, r = .tuple #[.agg [q, u].toArray, .int .i64 (getE c)] ∧ RdT w' q (getS c) ∧ RdB w' u (getI c) ∧ Keep [] w w') := by
  have hB : Keep [] w w := Keep.refl _ _
  refine ai Try.func59 rfl (by decide) Try.ntmps59 rfl (fun fin _ hfin => a5 (aZ (ah (bG dL) rfl ?_)))
  rintro _ w1 ⟨b1, rfl, eb1, hb1, k1, z1⟩
  have ge_b1 : w.heap.size ≤ b1 := by have := hB.size; omega
  replace hB := hB.trans k1
  clear eb1 z1
  refine oga rfl rfl (a6 (a5 (aZ (ogm rfl rfl ?_))))
  have zb1 := hb1.lt; have hs8 := hB.size
  refine ah (ab (vs := [_]) rfl (dl _ c _ (by first | assumption | exact Own.rd (by assumption) | exact Rd.oC (by assumption) hB | exact Own.rd (Own.oC (by assumption) hB)) (by omega))) rfl ?_
  rintro _ w2 ⟨p1, rfl, rr, k2⟩
  obtain ⟨hB, hb1⟩ := bX k2 hB hb1
  have gp1 := rr.1
  replace rr := rr.rdr
  refine oga rfl rfl (a6 (a5 (aZ (ogm rfl rfl (ah (ab (vs := [_]) rfl (bQ _ c 0 _ rr (by omega))) rfl ?_)))))
  rintro jw w3 ⟨_, rfl, ov1, rr, km1⟩
  have z_km1 := km1.size
  replace hb1 := hb1.keep km1 (fun hm => by have h9 := List.mem_singleton.1 hm; omega)
  replace hB := hB.new km1 (fun x hm => .inl (by have h9 := List.mem_singleton.1 hm; omega))
  have lt11 := rr.lt; have hlq := bU c 0
  refine ah (ab (vs := [_]) rfl (dl _ (rVec c 0).1 _ ov1.rd (by omega))) rfl ?_
  rintro _ w4 ⟨p2, rfl, rl, k3⟩
  replace hb1 := hb1.oC k3
  replace rr := rr.oC k3
  replace hB := hB.trans k3
  have gp2 := rl.1
  refine oga rfl rfl (a6 (a5 (aZ (ogm rfl rfl ?_))))
  have lt13 := rl.rdr.lt
  refine ah (ab (vs := [_]) rfl (bQ _ _ _ _ rr (by have h1 := bS c 0; omega))) rfl ?_
  rintro iw w5 ⟨_, rfl, o2, rr, km2⟩
  have z_km2 := km2.size
  replace hb1 := hb1.keep km2 (fun hm => by have h9 := List.mem_singleton.1 hm; omega)
  replace rl := rl.keep km2 (fun x hx hm => by have h9 := List.mem_singleton.1 hm; omega)
  replace hB := hB.new km2 (fun x hm => .inl (by have h9 := List.mem_singleton.1 hm; omega))
  have np_ovi : ∀ x, x ∈ vblk iw → p2 < x := fun x hx => by have := (o2.blk x hx).1; omega
  have gl_o2 := hB.size
  have go2 : ∀ x, x ∈ vblk iw → w.heap.size ≤ x := fun x hx => by have := np_ovi x hx; omega
  replace rl := rl.rdr
  refine a7 (cA (idx := [1]) (xs := [.tmp 13]) (vs := [_]) (css := [[_]]) (out := [_, _]) pl110 dL rfl rfl ⟨Rd.cells (by first | assumption | exact Own.rd (by assumption) | exact Rd.oC (by assumption) hB | exact Own.rd (Own.oC (by assumption) hB)), trivial⟩ rfl rfl) rfl ?_
  have lt14 := rl.lt
  refine ah (bG dL) rfl ?_
  rintro _ w6 ⟨b2, rfl, eb2, hb2, k4, z2⟩
  have zp2 : p2 < b2 := by omega
  have ge_b2 : w.heap.size ≤ b2 := by have := hB.size; omega
  have ne_b1_b2 : b1 ≠ b2 := by have := hb1.lt; omega
  have sb_b2_o2 := fun x hx => (show x ≠ b2 from by have := (o2.blk x hx).2; omega)
  replace hb1 := hb1.oC k4
  replace rl := rl.oC k4
  replace o2 := o2.oC k4
  replace hB := hB.trans k4
  clear eb2 z2
  refine an (bK dL rfl rfl rfl (by simp only [List.forall_mem_cons]; refine ⟨(by first | rfl | exact Rd.one (by first | assumption | exact Own.rd (by assumption) | exact Rd.oC (by assumption) hB | exact Own.rd (Own.oC (by assumption) hB))), (by first | rfl | exact Rd.one (by first | assumption | exact Own.rd (by assumption) | exact Rd.oC (by assumption) hB | exact Own.rd (Own.oC (by assumption) hB))), fun v hv => by cases hv⟩) hb2 rfl) ?_
  rintro _ w7 ⟨hb3, k5, z3⟩
  replace hb1 := hb1.keep k5 (nm ne_b1_b2)
  replace rl := rl.keep k5 (fun x hx hm => (fun x (hx : x ≤ p2) => (show x ≠ b2 from by omega)) x hx (List.mem_singleton.1 hm))
  replace o2 := o2.keep k5 (fun x hx hm => sb_b2_o2 x hx (List.mem_singleton.1 hm))
  replace hB := hB.new k5 (nw ge_b2)
  clear z3
  replace hb3 : Bk w7 b2 _ [.slice none 0 0, iw] := hb3
  refine a6 (af [(0, _), (2, _), (5, _), (6, _)] ⟨rfl, rfl, rfl, rfl, trivial⟩ (a5 (bA ?_)))
  obtain ⟨Z, hZ⟩ : ∃ Z, Z = w7.heap.size := ⟨_, rfl⟩
  have zc1 : b1 < Z := by have := hb1.lt; omega
  have zc2 : b2 < Z := by have := hb3.lt; omega
  have zp3 : p2 < Z := by omega
  have zo_ovi : ∀ x, x ∈ vblk iw → x < Z := fun x hx => by have := (o2.blk x hx).2; omega
  have zw := hB.size
  rw [← hZ] at zw
  have hqo := bU c 0; have hio := bU (rVec c 0).2.1 (rVec c 0).2.2
  refine cO (Γ := Value × List Tri × List UInt8 × Int) (fun ⟨q, xs, rest, e⟩ => [(0, v), (2, .pointer (some ⟨b1, 0, none⟩)), (5, .pointer (some ⟨p2, 0, none⟩)), (6, .pointer (some ⟨b2, 0, none⟩))]) (fun ⟨q, xs, rest, e⟩ W => TriJ (rVec c 0).1 xs rest e ∧ (∀ x ∈ xs, x.1.length ≤ 65536 ∧ x.2.1.length ≤ 65536 ∧ x.2.2.length ≤ 65536) ∧ OwT 5 W Z 141 q xs ∧ OwnB W 0 iw (rVec (rVec c 0).2.1 (rVec c 0).2.2).1 ∧ Bk W b1 110 [.slice none 0 0, .slice none 0 0] ∧ Bk W b2 110 [q, iw] ∧ Rdr W p2 rest e ∧ Z ≤ W.heap.size ∧ Keep [] w W) (fun ⟨q, xs, rest, e⟩ => triM rest e) ⟨.slice none 0 0, [], _, 0⟩ ⟨rfl, rfl, rfl, rfl, trivial⟩ (⟨ki _, mO, owT_nil _ _ _ _, o2.lo (Nat.zero_le _), hb1, hb3, rl, by omega, hB⟩) ?_
  rintro ⟨q, xs, rest, e⟩ w8 ⟨hJ, hsm, ot, ovi, hbx1, hbx2, rl, hsz, hB⟩
  refine af [(0, v), (2, .pointer (some ⟨b1, 0, none⟩)), (5, .pointer (some ⟨p2, 0, none⟩)), (6, .pointer (some ⟨b2, 0, none⟩))] ⟨rfl, rfl, rfl, rfl, trivial⟩ ?_
  have hJ2 : xs.length + rest.length ≤ (rVec c 0).1.length + 1 := Nat.le_trans hJ.2 (by split <;> omega)
  refine a5 (a5 (aZ (ogm rfl rfl (ah (ab (vs := [_]) rfl (kE _ _ _ _ rl)) rfl ?_))))
  rintro _ _ ⟨rfl, rfl⟩
  refine a7 (dK rfl rfl) rfl (ogm rfl rfl (aq 18 true rfl (fun c1 hgc1 => a9 [(5, _)] (ad rfl rfl rfl hgc1) ⟨bB rfl, trivial⟩ (fun hw1 => bC rfl) rfl (dk [(19, _)] (ad rfl rfl rfl hgc1) ⟨ag rfl, trivial⟩ (fun hw2 => ab (vs := [_]) rfl (ew _ _ _ _ rl)) rfl (a9 [(20, _)] (ad rfl rfl rfl hgc1) ⟨ag rfl, trivial⟩ (fun hw3 => bE rfl rfl) rfl (a7 (bM rfl rfl hgc1) rfl (a6 (bD rfl (fun hc1 => ?_) (fun hc1 => ?_)))))))))
  · -- yes
    have hd1 := hc1
    try (simp only [Bool.and_eq_true, Bool.or_eq_true, decide_eq_true_eq, Bool.and_eq_false_iff, Bool.or_eq_false_iff, decide_eq_false_iff_not, Bool.not_eq_true', Bool.not_eq_false', Bool.not_eq_true, Bool.not_eq_false, ne_eq, Decidable.not_not, decide_true, decide_false, Bool.true_and, Bool.false_and, Bool.or_false, Bool.false_or, not_true_eq_false, false_or, or_false, true_and, and_true, not_false_eq_true, reduceCtorEq] at hd1)
    refine aj (bA (ca 10 [0, 1, 2, 4, 6, 3, 5, 7, 8, 9] [3, 5, 7, 9] [p2] [] mixed [(6, _), (5, _), (0, _), (2, _)] ⟨rfl, rfl, rfl, rfl, trivial⟩ (by decide +kernel) (by decide) (by decide) ?_ (fun x hx => by have h9 := List.mem_singleton.1 hx; have := rl.lt; omega) rfl (fun w9 k6 => ?_)))
    · intro q hq; cases hq
    replace ot := ot.oC k6
    replace ovi := ovi.oC k6
    obtain ⟨hbx1, hbx2⟩ := cm k6 hbx1 hbx2
    replace rl := rl.oC k6
    replace hB := hB.trans k6
    have hqb := ot.blk; have lp2 := rl.lt; have hsw := hsz
    refine ba 6 rfl rfl rfl rfl (fun W' kk => az 0 aV rfl ip (by decide) rfl rfl) (ba 23 rfl rfl rfl rfl (fun W' kk => ae l9 rfl (Bk.keep hbx2 kk (by simp only [List.mem_cons, List.not_mem_nil, or_false]; first | assumption | (apply Ne.symm; assumption) | omega)) rfl) (eC 5 rfl rfl rfl rfl rfl (eC 5 rfl rfl rfl rfl rfl (eC 5 rfl rfl rfl rfl rfl (fo [(25, _)] rfl rfl ⟨rfl, trivial⟩ rfl (fun w11 k7 => ?_))))))
    replace ot := ot.oC k7
    replace ovi := ovi.oC k7
    obtain ⟨hbx1, hbx2⟩ := cm k7 hbx1 hbx2
    replace rl := rl.oC k7
    replace hB := hB.trans k7
    refine (ab (vs := [_]) rfl (bQ _ _ _ _ rl (by have h1 := bS rest e; omega))).mono ?_
    rintro v1 w10 ⟨_, rfl, o1, R1, km3⟩
    refine ⟨km3, (fun x hx => ⟨.inr (o1.blk x (o1.rd.cblk ▸ hx)).1, (o1.blk x (o1.rd.cblk ▸ hx)).2⟩), ?_⟩
    have zk6 := k6.size
    have zk7 := k7.size
    have z_km3 := km3.size
    replace ot := ot.keepL km3 (fun x hm => by have h9 := List.mem_singleton.1 hm; omega)
    replace ovi := ovi.keep km3 (fun x hx hm => by have h9 := List.mem_singleton.1 hm; have h8 := np_ovi x hx; omega)
    replace hbx1 := hbx1.keep km3 (fun hm => by have h9 := List.mem_singleton.1 hm; omega)
    replace hbx2 := hbx2.keep km3 (fun hm => by have h9 := List.mem_singleton.1 hm; omega)
    replace hB := hB.new km3 (fun x hm => .inl (by have h9 := List.mem_singleton.1 hm; omega))
    replace rl := R1
    refine fo [(27, _)] rfl rfl ⟨rfl, trivial⟩ rfl (fun w13 k8 => ?_)
    replace ot := ot.oC k8
    replace ovi := ovi.oC k8
    obtain ⟨hbx1, hbx2⟩ := cm k8 hbx1 hbx2
    replace rl := rl.oC k8
    replace o1 := o1.oC k8
    replace hB := hB.trans k8
    refine (ab (vs := [_]) rfl (bQ _ _ _ _ rl (by have h1 := bS rest e; omega))).mono ?_
    rintro v2 w12 ⟨_, rfl, o2, R2, km4⟩
    refine ⟨km4, (fun x hx => ⟨.inr (o2.blk x (o2.rd.cblk ▸ hx)).1, (o2.blk x (o2.rd.cblk ▸ hx)).2⟩), ?_⟩
    have zk8 := k8.size
    have z_km4 := km4.size
    replace ot := ot.keepL km4 (fun x hm => by have h9 := List.mem_singleton.1 hm; omega)
    replace ovi := ovi.keep km4 (fun x hx hm => by have h9 := List.mem_singleton.1 hm; have h8 := np_ovi x hx; omega)
    replace hbx1 := hbx1.keep km4 (fun hm => by have h9 := List.mem_singleton.1 hm; omega)
    replace hbx2 := hbx2.keep km4 (fun hm => by have h9 := List.mem_singleton.1 hm; omega)
    replace o1 := o1.keep km4 (fun x hx hm => by have h9 := List.mem_singleton.1 hm; have h8 := (o1.blk x hx).1; omega)
    replace hB := hB.new km4 (fun x hm => .inl (by have h9 := List.mem_singleton.1 hm; omega))
    replace rl := R2
    refine fo [(29, _)] rfl rfl ⟨rfl, trivial⟩ rfl (fun w15 k9 => ?_)
    replace ot := ot.oC k9
    replace ovi := ovi.oC k9
    obtain ⟨hbx1, hbx2⟩ := cm k9 hbx1 hbx2
    replace rl := rl.oC k9
    replace o1 := o1.oC k9
    replace o2 := o2.oC k9
    replace hB := hB.trans k9
    refine (ab (vs := [_]) rfl (bQ _ _ _ _ rl (by have h1 := bS rest e; have h2 := bS (rVec rest e).2.1 (rVec rest e).2.2; omega))).mono ?_
    rintro v3 w14 ⟨_, rfl, o3, R3, km5⟩
    refine ⟨km5, (fun x hx => ⟨.inr (o3.blk x (o3.rd.cblk ▸ hx)).1, (o3.blk x (o3.rd.cblk ▸ hx)).2⟩), ?_⟩
    have zk9 := k9.size
    have z_km5 := km5.size
    replace ot := ot.keepL km5 (fun x hm => by have h9 := List.mem_singleton.1 hm; omega)
    replace ovi := ovi.keep km5 (fun x hx hm => by have h9 := List.mem_singleton.1 hm; have h8 := np_ovi x hx; omega)
    replace hbx1 := hbx1.keep km5 (fun hm => by have h9 := List.mem_singleton.1 hm; omega)
    replace hbx2 := hbx2.keep km5 (fun hm => by have h9 := List.mem_singleton.1 hm; omega)
    replace o1 := o1.keep km5 (fun x hx hm => by have h9 := List.mem_singleton.1 hm; have h8 := (o1.blk x hx).1; omega)
    replace o2 := o2.keep km5 (fun x hx hm => by have h9 := List.mem_singleton.1 hm; have h8 := (o2.blk x hx).1; omega)
    replace hB := hB.new km5 (fun x hm => .inl (by have h9 := List.mem_singleton.1 hm; omega))
    replace rl := R3
    refine pa_g [(26, _), (28, _), (30, _)] rfl rfl ⟨rfl, rfl, rfl, trivial⟩ rfl (fun W' kk => cA (idx := [0, 1, 2]) (xs := [.tmp 26, .tmp 28, .tmp 30]) (vs := [_, _, _]) (css := [[_], [_], [_]]) (out := [v1, v2, v3]) pl141 hU rfl rfl ⟨Rd.cells (Own.rd o1), Rd.cells (Own.rd o2), Rd.cells (Own.rd o3), trivial⟩ rfl rfl) (fo [(31, _)] rfl rfl ⟨rfl, trivial⟩ rfl (fun w17 k11 => ?_))
    replace ot := ot.oC k11
    replace ovi := ovi.oC k11
    obtain ⟨hbx1, hbx2⟩ := cm k11 hbx1 hbx2
    replace rl := rl.oC k11
    replace o1 := o1.oC k11
    replace o2 := o2.oC k11
    replace o3 := o3.oC k11
    replace hB := hB.trans k11
    refine (de (m := 1) (xs := [.tmp 31]) (vs := [_]) aY hU (by decide) rfl rfl rfl (by first | (simp; done) | (intro v hv; rw [List.mem_singleton] at hv; subst hv; rfl)) (by decide)).mono ?_
    rintro v4 w16 ⟨o4, nn1, lb1, k10, z4⟩
    refine ⟨k10.weak, (fun x hx => ⟨.inr (o4.blk x (o4.rd.cblk ▸ hx)).1, (o4.blk x (o4.rd.cblk ▸ hx)).2⟩), ?_⟩
    have gl_o4 := hB.size
    replace ot := ot.oC k10
    replace ovi := ovi.oC k10
    obtain ⟨hbx1, hbx2⟩ := cm k10 hbx1 hbx2
    replace rl := rl.oC k10
    replace o1 := o1.oC k10
    replace o2 := o2.oC k10
    replace o3 := o3.oC k10
    replace hB := hB.trans k10
    refine dW (fun w18 k12 => ?_)
    replace ot := ot.oC k12
    replace ovi := ovi.oC k12
    obtain ⟨hbx1, hbx2⟩ := cm k12 hbx1 hbx2
    replace rl := rl.oC k12
    replace o1 := o1.oC k12
    replace o2 := o2.oC k12
    replace o3 := o3.oC k12
    replace o4 := o4.oC k12
    replace hB := hB.trans k12
    refine ce ?_
    have zk10 := k10.size
    have zk11 := k11.size
    have zk12 := k12.size
    have hob : Rd _ 3 _ 1 [v1, v2, v3] := o4.rd
    refine ah (d_appT (t8 := 5) (z := (dD rest e).1) aY hU rfl rfl ot rfl hob (o1.lo (by omega)) (o2.lo (by omega)) (o3.lo (by omega)) (fun y hy hm => by have h1 := (o1.blk y hy).1; have h2 := (hqb y hm).2; omega) (fun y hy hm => by have h1 := (o2.blk y hy).1; have h2 := (hqb y hm).2; omega) (fun y hy hm => by have h1 := (o3.blk y hy).1; have h2 := (hqb y hm).2; omega) (by omega) (by omega)) rfl ?_
    rintro q1 w19 ⟨ot1, k13, lb2⟩
    have zk_k13 := k13.size
    replace hB := hB.new k13 (fun x hx => .inl (by have := (ot.blk x hx).1; omega))
    replace ovi := ovi.keep k13 (fun x hx hm => by have h1 := (ot.blk _ hm).1; have h2 := zo_ovi x hx; omega)
    replace hbx1 := hbx1.keep k13 (fun hm => by have := (ot.blk _ hm).1; omega)
    replace hbx2 := hbx2.keep k13 (fun hm => by have := (ot.blk _ hm).1; omega)
    replace rl := rl.keep k13 (fun x hx hm => by have := (ot.blk _ hm).1; omega)
    refine a7 (az 0 aV rfl ip (by decide) rfl rfl) rfl (an (bV ip rfl rfl ot1.one hbx2 rfl) ?_)
    rintro _ w20 ⟨hb4, k14, z5⟩
    have zk_k14 := k14.size
    replace ovi := ovi.keep k14 (fun x hx hm => sb_b2_o2 x hx (List.mem_singleton.1 hm))
    replace hbx1 := hbx1.keep k14 (nm ne_b1_b2)
    replace ot1 := ot1.keep k14 (fun x hx hm => (fun x hx => (show x ≠ b2 from by omega)) x hx (List.mem_singleton.1 hm))
    replace rl := rl.keep k14 (fun x hx hm => (fun x (hx : x ≤ p2) => (show x ≠ b2 from by omega)) x hx (List.mem_singleton.1 hm))
    replace hB := hB.new k14 (nw ge_b2)
    replace hb4 : Bk w20 b2 _ [q1, iw] := hb4
    clear z5
    refine a6 (af [(6, _), (5, _), (0, _), (2, _)] ⟨rfl, rfl, rfl, rfl, trivial⟩ (cG ?_))
    have hlt := mH (rest := rest) (e := e) (by omega) (by omega)
    refine cP (Γ := Value × List Tri × List UInt8 × Int) ⟨q1, _, _, _⟩ ⟨rfl, rfl, rfl, rfl, trivial⟩ (by (try dsimp only); omega) (⟨mJ hJ (by omega) (by omega), kl hsm rest e, ot1, ovi, hbx1, hb4, rl, by omega, hB⟩)
  · -- no
    have hd2 := hc1
    try (simp only [Bool.and_eq_true, Bool.or_eq_true, decide_eq_true_eq, Bool.and_eq_false_iff, Bool.or_eq_false_iff, decide_eq_false_iff_not, Bool.not_eq_true', Bool.not_eq_false', Bool.not_eq_true, Bool.not_eq_false, ne_eq, Decidable.not_not, decide_true, decide_false, Bool.true_and, Bool.false_and, Bool.or_false, Bool.false_or, not_true_eq_false, false_or, or_false, true_and, and_true, not_false_eq_true, reduceCtorEq] at hd2)
    refine bd rfl (a5 (aZ (a7 (au (cs' := [_, _]) ib dL rfl hbx2 rfl rfl) rfl (ogm rfl rfl ?_))))
    have hend := nA hJ.1 (by omega)
    have hgo := getOk_1 hend
    have hwp := mt hend
    refine ah (ab (vs := [_, _, _]) rfl (again_k q iw xs _ _ ot.rdT ovi.rd (fun x hx => by have := hsm x hx; omega) v c (by first | assumption | exact Own.rd (by assumption) | exact Rd.oC (by assumption) hB | exact Own.rd (Own.oC (by assumption) hB)))) rfl ?_
    rintro _ w21 ⟨q3, u3, rfl, oq3, ou3, hcase, k15⟩
    replace ot := ot.oC k15
    replace ovi := ovi.oC k15
    obtain ⟨hB, hbx1⟩ := bX k15 hB hbx1
    refine a7 (bH (vs := [_, _]) rfl rfl) rfl (a7 (bH (vs := [_, _]) rfl rfl) rfl (an (bK dL rfl rfl rfl (by simp only [List.forall_mem_cons]; exact ⟨oq3, ou3, fun v hv => by cases hv⟩) hbx1 rfl) ?_))
    rintro _ w22 ⟨hb5, k16, z6⟩
    replace ot := ot.keep k16 (fun x hx hm => (fun x hx => (show x ≠ b1 from by omega)) x hx (List.mem_singleton.1 hm))
    replace ovi := ovi.keep k16 (fun x hx hm => (fun x hx => (show x ≠ b1 from by have := np_ovi x hx; omega)) x hx (List.mem_singleton.1 hm))
    replace hB := hB.new k16 (nw ge_b1)
    clear z6
    replace hb5 : Bk w22 b1 _ [q3, u3] := hb5
    refine oga rfl rfl (a6 (af [(2, _), (3, _)] ⟨rfl, rfl, trivial⟩ (bJ hfin Try.results59 rfl (ar ib dL hb5 rfl) rfl ?_)))
    rw [← hgo]
    rw [← hgo] at hcase
    rcases hcase with ⟨hg, rfl, rfl⟩ | ⟨hg, rfl, rfl⟩
    · exact ⟨_, _, by unfold getE; rfl, by unfold getS; rw [hg, hwp]; exact ot.rdT, by unfold getI; rw [hg, hwp]; exact ovi.rd, hB⟩
    · exact ⟨_, _, by unfold getE; rfl, by unfold getS; rw [hg]; exact rdT_nil _, by unfold getI; rw [hg]; exact Rd.nil _ _, hB⟩
theorem i9 (e : Int) (w : World) : Rets Try.prog 20 [.int .i64 e] w (fun r w' => r = .int .i64 e ∧ w = w') := by
 refine ai Try.func20 rfl (by decide) Try.ntmps20 rfl (fun fin _ hfin => a5 (aZ (oga rfl rfl (a6 (a5 (aZ (ogm rfl rfl (oga rfl rfl (a6 (al hfin Try.results20 rfl ?_))))))))))
 exact ⟨rfl, rfl⟩
theorem fQ (e : Int) (w : World) : Rets Try.prog 20 [.int .i64 e] w (fun r w' => r = .int .i64 e ∧ Keep [] w w') := (i9 e w).mono fun _ _ ⟨h, e⟩ => ⟨h, e ▸ Keep.refl _ _⟩
theorem m7 (w : World) : Rets Try.prog 16 [.agg [.slice none 0 0, .slice none 0 0].toArray] w (fun v w' => ∃ u, v = .tuple #[u, .int .i64 0] ∧ OwnB w' w.heap.size u [0, 0] ∧ Keep [] w w') :=
  eT (.slice none 0 0) (.slice none 0 0) [] [] w (jW w) (Rd.nil _ _) cy
theorem jH : ∀ (n : Nat) (rest : List UInt8) (e : Int), ∀ x ∈ (itL n rest e).1, x.1.length ≤ 140737488351232 ∧ PrLen x.2
 | 0, _, _ => cy
 | n + 1, rest, e => by
   unfold itL
   split
   · intro x hx
     rcases List.mem_cons.1 hx with h1 | h1
     · subst h1; exact dT cy rest e _ (by simp [nf])
     · exact jH n _ _ x h1
   · exact cy
theorem jP (c : List UInt8) : ∀ x ∈ bgR c, x.1.length ≤ 140737488351232 ∧ PrLen x.2 := by
 unfold bgR
 cases bgOk c with
 | false => exact cy
 | true => exact jH _ _ _
theorem bdB_len {xs : List It} {p : List UInt8} (h : bdOk xs p = true) : (bdB xs p).length ≤ 100000 := by
 obtain ⟨h1, h2, h3⟩ := dU.1 h
 have hl := dz h3
 have e1 := fD (xs.flatMap itB); have e2 := fD p
 unfold bdB bdT; rw [h, cond_true, List.length_append]; omega
theorem lU (v : Value) (ss : List It) (pa : List UInt8) (w : World) (hp : bdOk ss pa = true) (hv : RdB w v (bdB ss pa)) : Rets Try.prog 18 [v] w (fun r w' => ∃ q u, r = .tuple #[.agg [q, u].toArray, .int .i64 0] ∧ RdI w' q ss ∧ RdB w' u pa ∧ Keep [] w w') := by
  have hb := bg_back hp
  have := jJ v (bdB ss pa) w hv (by have := bdB_len hp; omega)
  rw [hb.1, hb.2.1, hb.2.2] at this; exact this
theorem eV (w : World) : Rets Try.prog 22 [] w (fun r w' => r = .bool true ∧ Keep [] w w') := by
 have hB : Keep [] w w := Keep.refl _ _
 refine ai Try.func22 rfl (by decide) Try.ntmps22 rfl (fun fin _ hfin => a5 (aZ (oga rfl rfl (a6 (a5 (aZ (a7 (cA (idx := []) (xs := []) (vs := []) (css := []) (out := [_, _]) pl55 cj rfl rfl trivial rfl rfl) rfl (ah (ab (vs := [_]) rfl (m7 _)) rfl ?_))))))))
 rintro _ w1 ⟨u1, rfl, o1, k1⟩
 have gl_o1 := hB.size
 replace hB := hB.trans k1
 refine ogm rfl rfl (a7 (bH (vs := [_, _]) rfl rfl) rfl (a7 (bH (vs := [_, _]) rfl rfl) rfl (oga rfl rfl (oga rfl rfl (a6 (a5 (aZ (ah (ab (vs := [_]) rfl (nj _ [] _ (Rd.nil _ _) (by decide))) rfl ?_))))))))
 rintro _ w2 ⟨q1, u2, rfl, Q1, U1, k2⟩
 replace o1 := o1.oC k2
 replace hB := hB.trans k2
 refine ogm rfl rfl (a7 (bH (vs := [_, _]) rfl rfl) rfl (a7 (bH (vs := [_, _]) rfl rfl) rfl (ah (bG dL) rfl ?_)))
 rintro _ w3 ⟨b1, rfl, eb1, hb1, k3, z1⟩
 have ge_b1 : w.heap.size ≤ b1 := by have := hB.size; omega
 have sb_b1_o1 := fun x hx => (show x ≠ b1 from by have := (o1.blk x hx).2; omega)
 replace o1 := o1.oC k3
 replace hB := hB.trans k3
 clear eb1 z1
 refine an (bK dL rfl rfl rfl (by simp only [List.forall_mem_cons]; exact ⟨Q1.one, U1.one, fun v hv => by cases hv⟩) hb1 rfl) ?_
 rintro _ w4 ⟨hb2, k4, z2⟩
 replace o1 := o1.keep k4 (fun x hx hm => sb_b1_o1 x hx (List.mem_singleton.1 hm))
 replace hB := hB.new k4 (nw ge_b1)
 clear z2
 replace hb2 : Bk w4 b1 _ [q1, u2] := hb2
 refine oga rfl rfl (a6 (af [(1, _), (2, _), (4, _)] ⟨rfl, rfl, rfl, trivial⟩ (a5 (aZ (ogm rfl rfl (ah (ab (vs := [_]) rfl (i9 _ _)) rfl ?_))))))
 rintro _ _ ⟨rfl, rfl⟩
 refine a7 (bE rfl rfl) rfl (ogm rfl rfl (ax (grdT rfl rfl rfl (decide_eq_true rfl)) (bC rfl) rfl (ax (grdT rfl rfl rfl (decide_eq_true rfl)) (br aA aG aI rfl o1.rd) rfl (ax (grdT rfl rfl rfl (decide_eq_true rfl)) (eA (a := [0, 0]) (b := [0, 0]) rfl rfl) rfl (a7 (cK rfl (decide_eq_true rfl) rfl) rfl (ogm rfl rfl (ax (grdT rfl rfl rfl (decide_eq_true rfl)) (bC rfl) rfl (f7 (grdT rfl rfl rfl (decide_eq_true rfl)) (ab (vs := [_]) rfl (i9 _ _)) rfl ?_))))))))
 rintro _ _ ⟨rfl, rfl⟩
 refine ax (grdT rfl rfl rfl (decide_eq_true rfl)) (bE rfl rfl) rfl (a7 (cK rfl (decide_eq_true rfl) rfl) rfl (oga rfl rfl (a6 (af [(0, _)] ⟨rfl, trivial⟩ (al hfin Try.results22 rfl ?_)))))
 exact ⟨by first | rfl | decide, hB⟩
end Go.Proofs.Ytonchmcppekldaa.W
