/- Proved: 'synodlaw21.GroupWelcomes' returns true whatever welcome and whatever bytes come in, and both read behind the call as before. No condition but the form's own. -/
import Derived.Test.YtimeclfplaonkaaRows
import Derived.Test.YtimeclfplaonkaaQgc
namespace Go.Proofs.Ytimeclfplaonkaa.GroupWelcomesDone
open Go Go.Eng Go.Byt Go.ChangeShapes Go.WideShapes Go.ChangeAt Go.RowKit Go.Proofs.Ytimeclfplaonkaa.W
set_option linter.unusedVariables false
theorem own : ownKnob Try.prog.godebug = none := by kernel_rfl
theorem laidOut : laidOutB Try.prog = true := by kernel_rfl
theorem cells25 : Try.prog.cellsOf 25 = 2 := by kernel_rfl
theorem cells22 : Try.prog.cellsOf 22 = 1 := by kernel_rfl
theorem cells97 : Try.prog.cellsOf 97 = 3 := by kernel_rfl
theorem bytes97 : Try.prog.bytesOf 97 = 72 := by kernel_rfl
theorem cells23 : Try.prog.cellsOf 23 = 1 := by kernel_rfl
theorem cells5 : Try.prog.cellsOf 5 = 1 := by kernel_rfl
theorem bytes5 : Try.prog.bytesOf 5 = 1 := by kernel_rfl
set_option maxRecDepth 100000 in
theorem welcome_reads {H : Type} {enc : TypeId × Value → H} {w : World} {r : Reach} {b0 : Nat} {v : Value} {d : DataW H} {p : List MemPlace} (hv : Value.okWide Try.prog w r b0 25 v) (h : DataW.Trod enc Try.prog w 0 (fun _ => true) true 25 v d p) (hs : Small Try.prog 25 d) :
    ∃ sv iv ss info, v = .agg [sv, iv].toArray ∧ RdT w sv ss ∧ RdB w iv info ∧ (∀ x ∈ ss, x.1.length ≤ 140737488351232 ∧ x.2.1.length ≤ 140737488351232 ∧ x.2.2.length ≤ 140737488351232) ∧ ss.length * 72 ≤ 140737488351232 ∧ info.length ≤ 140737488351232 := by
  obtain ⟨cs, rfl, _⟩ := okWide_struct Try.underlying25 hv
  obtain ⟨fuel, hf⟩ := h
  obtain ⟨hl, n, hfi⟩ := read_struct Try.underlying25 hf hs
  rw [cells25] at hl
  obtain ⟨l⟩ := cs
  obtain ⟨c0, c1, rfl⟩ := list2 (l := l) (by simpa [Value.cells] using hl)
  obtain ⟨z0, h0, s0⟩ := hfi 0 _ rfl
  obtain ⟨z1, h1, s1⟩ := hfi 1 _ rfl
  obtain ⟨v0, ss, e0, r0, l0, m0⟩ := read_tris (t := 22) (e := 97) (tb := 23) (t8 := 5) Try.underlying22 Try.underlying97 rfl rfl rfl rfl rfl rfl Try.underlying23 Try.underlying5 cells5 bytes5 cells97 bytes97 cells23 h0 s0
  obtain ⟨v1, x1, e1, r1, l1⟩ := read_bytes' (t := 23) (e := 5) Try.underlying23 Try.underlying5 cells5 bytes5 h1 s1
  simp [Value.cells, cells22, cells23] at e0 e1
  subst e0 e1
  exact ⟨_, _, ss, x1, rfl, r0, r1, m0, l0, l1⟩
set_option maxRecDepth 100000 in
theorem lifted (os : Os) (started : os.Started) (H : Type) (enc : TypeId × Value → H) :
    ReturnsInHanded {} Try.checked os 3 .any (Rows.groupWelcomesSpec.pre6 enc Try.prog Try.f3 Rows.groupWelcomesRow.domain false) (Rows.groupWelcomesSpec.post enc Try.prog Try.f3 false true false false) := by
  refine returnsInHanded_of_change_sized (C := Try.checked) own started (by kernel_rfl) Try.func3
    (ChangeSpec.witness6 (enc := enc) (C := Try.checked) false ⟨#[], #[.agg #[.slice none 0 0, .slice none 0 0], .slice none 0 0], []⟩ 8 (by kernel_rfl) (by kernel_rfl) (by kernel_rfl) (by kernel_rfl)) ?_
  intro W base args ds gs before hval0 hW hcnd hsz _
  have hval : ∀ (j : Nat) t v, Try.f3.params[j]? = some t → args[j]? = some v → Value.okWide Try.prog W .any base t v := hval0
  have hW' := hW
  obtain ⟨p, q, hA0, hV, rfl, hfz, hnd⟩ := hW
  have hA : DataW.TrodAll enc Try.prog W 0 (fun _ => true) true Try.f3.params.toList args.toList ds p := hA0
  have hsz1 : (DataW.weightsEach Try.prog (Try.f3.params.toList ++ Rows.groupWelcomesSpec.plain.varTypes Try.prog) (ds ++ gs)).all (· ≤ reachBytes) = true := hsz
  rw [Try.params3] at hA hval hsz1
  obtain ⟨v0, vs0, d0, ds0, p0, q0, hargs, rfl, rfl, h0, r0⟩ := trodAll_cons hA
  obtain ⟨v1, vs1, d1, ds1, p1, q1, rfl, rfl, rfl, h1, r1⟩ := trodAll_cons r0
  obtain ⟨rfl, rfl, rfl⟩ := trodAll_nil r1
  obtain rfl : args = #[v0, v1] := by cases args; simp_all
  obtain ⟨rfl, rfl⟩ := trodVars_none hV
  have k0 := h0
  have k1 := h1
  have lt0 := trod_below h0
  have lt1 := trod_below h1
  have s0 : Small Try.prog 25 d0 := small_arg hsz1 (j := 0) rfl rfl
  have s1 : Small Try.prog 23 d1 := small_arg hsz1 (j := 1) rfl rfl
  obtain ⟨sv, iv, ss, info, e0, hs, hi, hsm, hcn, hil⟩ := welcome_reads (hval 0 25 v0 rfl rfl) h0 s0
  obtain ⟨a1, m1, c1, rfl⟩ := okWide_slice Try.underlying23 (hval 1 23 v1 rfl rfl)
  obtain ⟨f1, g1⟩ := h1
  obtain ⟨u1, x1, e1, b1, l1⟩ := read_bytes' (t := 23) (e := 5) Try.underlying23 Try.underlying5 cells5 bytes5 g1 s1
  simp [Value.cells] at e1
  subst e1
  have hR := welcomes_any _ x1 sv iv ss info W hs hi hsm hcn hil b1 l1
  rw [← e0] at hR
  clear hA0 hval0
  refine (hR.2 : Calls Try.prog 3 _ W _).mono fun e W' ⟨x, he, hx, hk⟩ => ?_
  subst hx
  subst he
  have bel := hk.below0
  exact ⟨_, rfl, _, _, _, [], _, [], hW', trodAll_mk1 (shut_bool Try.underlying4 _), (trodAll_cons_mk (Below.trod laidOut (by kernel_rfl) (of_decide_eq_true (by kernel_rfl)) k0 bel lt0) (trodAll_cons_mk (Below.trod laidOut (by kernel_rfl) (of_decide_eq_true (by kernel_rfl)) k1 bel lt1) trodAll_mk0)), rfl, bel.frame _, fun h => by cases h⟩
theorem over : Rows.groupWelcomesRow.holds Try.pinned (OpenSpec.ofChange Rows.groupWelcomesSpec) :=
  OpenClaim.holds_of_wide 3 Try.f3 rfl rfl rfl rfl rfl rfl rfl ⟨rfl, rfl, rfl, rfl, rfl⟩ rfl rfl rfl rfl rfl (by kernel_rfl) Try.func3 (by kernel_rfl)
    (of_decide_eq_true (by kernel_rfl)) (by unfold Func.isWrapper; first | (rw [if_pos (by decide +kernel)]; kernel_rfl) | (rw [if_neg (by decide +kernel)]; exact ⟨rfl, rfl⟩))
    (fun os started H enc _ => lifted os started H enc)
theorem proved : Rows.GroupWelcomesSaid := over
#print axioms proved
end Go.Proofs.Ytimeclfplaonkaa.GroupWelcomesDone
