/- Proved: 'synodlaw21.GroupInfos' returns true whatever info and whatever bytes come in, and both read behind the call as before. No condition but the form's own. -/
import Derived.Test.YtimeclfplaonkaaRows
import Derived.Test.YtimeclfplaonkaaQid
namespace Go.Proofs.Ytimeclfplaonkaa.GroupInfosDone
open Go Go.Eng Go.Byt Go.ChangeShapes Go.WideShapes Go.ChangeAt Go.RowKit Go.Proofs.Ytimeclfplaonkaa.W
set_option linter.unusedVariables false
theorem own : ownKnob Try.prog.godebug = none := by kernel_rfl
theorem laidOut : laidOutB Try.prog = true := by kernel_rfl
theorem cells83 : Try.prog.cellsOf 83 = 9 := by kernel_rfl
theorem cells81 : Try.prog.cellsOf 81 = 4 := by kernel_rfl
theorem cells3 : Try.prog.cellsOf 3 = 1 := by kernel_rfl
theorem cells23 : Try.prog.cellsOf 23 = 1 := by kernel_rfl
theorem cells5 : Try.prog.cellsOf 5 = 1 := by kernel_rfl
theorem bytes5 : Try.prog.bytesOf 5 = 1 := by kernel_rfl
theorem list9 {α : Type} {l : List α} (h : l.length = 9) : ∃ a b c d e f g h i, l = [a, b, c, d, e, f, g, h, i] := by
  match l, h with
  | [a, b, c, d, e, f, g, h, i], _ => exact ⟨a, b, c, d, e, f, g, h, i, rfl⟩
set_option maxRecDepth 100000 in
theorem info_reads {H : Type} {enc : TypeId × Value → H} {w : World} {r : Reach} {b0 : Nat} {v : Value} {d : DataW H} {p : List MemPlace} (hv : Value.okWide Try.prog w r b0 83 v) (h : DataW.Trod enc Try.prog w 0 (fun _ => true) true 83 v d p) (hs : Small Try.prog 83 d) :
    ∃ g t x tr co ou sg, ∃ i : Inf, v = .agg [g, .int .i64 i.c.ep, t, x, tr, co, ou, .int .i64 i.signer, sg].toArray ∧ (RdB w g i.c.g ∧ RdB w t i.c.tr ∧ RdB w x i.c.tx ∧ RdB w tr i.tree ∧ RdB w co i.conf ∧ RdB w ou i.outer ∧ RdB w sg i.sig) ∧ (i.c.g.length ≤ 140737488351232 ∧ i.c.tr.length ≤ 140737488351232 ∧ i.c.tx.length ≤ 140737488351232 ∧ i.tree.length ≤ 140737488351232 ∧ i.conf.length ≤ 140737488351232 ∧ i.outer.length ≤ 140737488351232 ∧ i.sig.length ≤ 140737488351232) := by
  obtain ⟨cs, rfl, _⟩ := okWide_struct Try.underlying83 hv
  obtain ⟨fuel, hf⟩ := h
  obtain ⟨hl, n, hfi⟩ := read_struct Try.underlying83 hf hs
  rw [cells83] at hl
  obtain ⟨l⟩ := cs
  obtain ⟨c0, c1, c2, c3, c4, c5, c6, c7, c8, rfl⟩ := list9 (l := l) (by simpa [Value.cells] using hl)
  obtain ⟨z0, h0, s0⟩ := hfi 0 _ rfl
  obtain ⟨z1, h1, s1⟩ := hfi 1 _ rfl
  obtain ⟨z2, h2, s2⟩ := hfi 2 _ rfl
  obtain ⟨z3, h3, s3⟩ := hfi 3 _ rfl
  obtain ⟨z4, h4, s4⟩ := hfi 4 _ rfl
  obtain ⟨z5, h5, s5⟩ := hfi 5 _ rfl
  obtain ⟨_, n', hfc⟩ := read_struct Try.underlying81 h0 s0
  obtain ⟨za, ha, sa⟩ := hfc 0 _ rfl
  obtain ⟨zb, hb, sb⟩ := hfc 1 _ rfl
  obtain ⟨zc, hc, sc⟩ := hfc 2 _ rfl
  obtain ⟨zd, hd, sd⟩ := hfc 3 _ rfl
  obtain ⟨va, xa, ea, ra, la⟩ := read_bytes' (t := 23) (e := 5) Try.underlying23 Try.underlying5 cells5 bytes5 ha sa
  obtain ⟨nb, eb, _⟩ := read_int (t := 3) Try.underlying3 hb
  obtain ⟨vb, xb, ec, rb, lb⟩ := read_bytes' (t := 23) (e := 5) Try.underlying23 Try.underlying5 cells5 bytes5 hc sc
  obtain ⟨vc, xc, ed, rc, lc⟩ := read_bytes' (t := 23) (e := 5) Try.underlying23 Try.underlying5 cells5 bytes5 hd sd
  obtain ⟨v1, x1, e1, r1, l1⟩ := read_bytes' (t := 23) (e := 5) Try.underlying23 Try.underlying5 cells5 bytes5 h1 s1
  obtain ⟨v2, x2, e2, r2, l2⟩ := read_bytes' (t := 23) (e := 5) Try.underlying23 Try.underlying5 cells5 bytes5 h2 s2
  obtain ⟨v3, x3, e3, r3, l3⟩ := read_bytes' (t := 23) (e := 5) Try.underlying23 Try.underlying5 cells5 bytes5 h3 s3
  obtain ⟨n4, e4, _⟩ := read_int (t := 3) Try.underlying3 h4
  obtain ⟨v5, x5, e5, r5, l5⟩ := read_bytes' (t := 23) (e := 5) Try.underlying23 Try.underlying5 cells5 bytes5 h5 s5
  simp [Value.cells, cells81, cells23, cells3] at ea eb ec ed e1 e2 e3 e4 e5
  subst ea eb ec ed e1 e2 e3 e4 e5
  exact ⟨_, _, _, _, _, _, _, ⟨⟨xa, nb, xb, xc⟩, x1, x2, x3, n4, x5⟩, rfl, ⟨ra, rb, rc, r1, r2, r3, r5⟩, ⟨la, lb, lc, l1, l2, l3, l5⟩⟩
set_option maxRecDepth 100000 in
theorem lifted (os : Os) (started : os.Started) (H : Type) (enc : TypeId × Value → H) :
    ReturnsInHanded {} Try.checked os 6 .any (Rows.groupInfosSpec.pre6 enc Try.prog Try.f6 Rows.groupInfosRow.domain false) (Rows.groupInfosSpec.post enc Try.prog Try.f6 false true false false) := by
  refine returnsInHanded_of_change_sized (C := Try.checked) own started (by kernel_rfl) Try.func6
    (ChangeSpec.witness6 (enc := enc) (C := Try.checked) false ⟨#[], #[.agg #[.slice none 0 0, .int .i64 0, .slice none 0 0, .slice none 0 0, .slice none 0 0, .slice none 0 0, .slice none 0 0, .int .i64 0, .slice none 0 0], .slice none 0 0], []⟩ 8 (by kernel_rfl) (by kernel_rfl) (by kernel_rfl) (by kernel_rfl)) ?_
  intro W base args ds gs before hval0 hW hcnd hsz _
  have hval : ∀ (j : Nat) t v, Try.f6.params[j]? = some t → args[j]? = some v → Value.okWide Try.prog W .any base t v := hval0
  have hW' := hW
  obtain ⟨p, q, hA0, hV, rfl, hfz, hnd⟩ := hW
  have hA : DataW.TrodAll enc Try.prog W 0 (fun _ => true) true Try.f6.params.toList args.toList ds p := hA0
  have hsz1 : (DataW.weightsEach Try.prog (Try.f6.params.toList ++ Rows.groupInfosSpec.plain.varTypes Try.prog) (ds ++ gs)).all (· ≤ reachBytes) = true := hsz
  rw [Try.params6] at hA hval hsz1
  obtain ⟨v0, vs0, d0, ds0, p0, q0, hargs, rfl, rfl, h0, r0⟩ := trodAll_cons hA
  obtain ⟨v1, vs1, d1, ds1, p1, q1, rfl, rfl, rfl, h1, r1⟩ := trodAll_cons r0
  obtain ⟨rfl, rfl, rfl⟩ := trodAll_nil r1
  obtain rfl : args = #[v0, v1] := by cases args; simp_all
  obtain ⟨rfl, rfl⟩ := trodVars_none hV
  have k0 := h0
  have k1 := h1
  have lt0 := trod_below h0
  have lt1 := trod_below h1
  have s0 : Small Try.prog 83 d0 := small_arg hsz1 (j := 0) rfl rfl
  have s1 : Small Try.prog 23 d1 := small_arg hsz1 (j := 1) rfl rfl
  obtain ⟨gv, tv, xv, trv, cov, ouv, sgv, i, e0, ⟨ra, rb, rc, r1, r2, r3, r5⟩, ⟨la, lb, lc, l1', l2, l3, l5⟩⟩ := info_reads (hval 0 83 v0 rfl rfl) h0 s0
  obtain ⟨a1, m1, c1, rfl⟩ := okWide_slice Try.underlying23 (hval 1 23 v1 rfl rfl)
  obtain ⟨f1, g1⟩ := h1
  obtain ⟨u1, x1, e1, b1, l1⟩ := read_bytes' (t := 23) (e := 5) Try.underlying23 Try.underlying5 cells5 bytes5 g1 s1
  simp [Value.cells] at e1
  subst e1
  have hR := infos_any _ x1 gv tv xv trv cov ouv sgv i W ra rb rc r1 r2 r3 r5 la lb lc l1' l2 l3 l5 b1 l1
  rw [← e0] at hR
  clear hA0 hval0
  refine (hR.2 : Calls Try.prog 6 _ W _).mono fun e W' ⟨x, he, hx, hk⟩ => ?_
  subst hx
  subst he
  have bel := hk.below0
  exact ⟨_, rfl, _, _, _, [], _, [], hW', trodAll_mk1 (shut_bool Try.underlying4 _), (trodAll_cons_mk (Below.trod laidOut (by kernel_rfl) (of_decide_eq_true (by kernel_rfl)) k0 bel lt0) (trodAll_cons_mk (Below.trod laidOut (by kernel_rfl) (of_decide_eq_true (by kernel_rfl)) k1 bel lt1) trodAll_mk0)), rfl, bel.frame _, fun h => by cases h⟩
theorem over : Rows.groupInfosRow.holds Try.pinned (OpenSpec.ofChange Rows.groupInfosSpec) :=
  OpenClaim.holds_of_wide 6 Try.f6 rfl rfl rfl rfl rfl rfl rfl ⟨rfl, rfl, rfl, rfl, rfl⟩ rfl rfl rfl rfl rfl (by kernel_rfl) Try.func6 (by kernel_rfl)
    (of_decide_eq_true (by kernel_rfl)) (by unfold Func.isWrapper; first | (rw [if_pos (by decide +kernel)]; kernel_rfl) | (rw [if_neg (by decide +kernel)]; exact ⟨rfl, rfl⟩))
    (fun os started H enc _ => lifted os started H enc)
theorem proved : Rows.GroupInfosSaid := over
#print axioms proved
end Go.Proofs.Ytimeclfplaonkaa.GroupInfosDone
