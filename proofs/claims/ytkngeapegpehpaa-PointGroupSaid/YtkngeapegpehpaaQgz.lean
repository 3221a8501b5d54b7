/- Proved: 'synodlaw06.PointGroup' returns true whatever three slices of bytes come in, and each argument reads behind the call as before. No condition but the form's own. -/
import Derived.Test.YtkngeapegpehpaaRows
import Derived.Test.YtkngeapegpehpaaQgf
namespace Go.Proofs.Ytkngeapegpehpaa.PointGroupDone
open Go Go.Eng Go.ChangeShapes Go.WideShapes Go.ChangeAt Go.RowKit Go.Proofs.Ytkngeapegpehpaa.W
set_option linter.unusedVariables false
theorem own : ownKnob Try.prog.godebug = none := by kernel_rfl
theorem laidOut : laidOutB Try.prog = true := by kernel_rfl
theorem cellsE22 : Try.prog.cellsOf 5 = 1 := by kernel_rfl
theorem bytesE22 : Try.prog.bytesOf 5 = 1 := by kernel_rfl
set_option maxRecDepth 100000 in
theorem lifted (os : Os) (started : os.Started) (H : Type) (enc : TypeId × Value → H) :
    ReturnsInHanded {} Try.checked os 7 .any (Rows.pointGroupSpec.pre6 enc Try.prog Try.f7 Rows.pointGroupRow.domain false) (Rows.pointGroupSpec.post enc Try.prog Try.f7 false true false false) := by
  refine returnsInHanded_of_change_sized (C := Try.checked) own started (by kernel_rfl) Try.func7
    (ChangeSpec.witness6 (enc := enc) (C := Try.checked) false ⟨#[], #[.slice none 0 0, .slice none 0 0, .slice none 0 0], []⟩ 8 (by kernel_rfl) (by kernel_rfl) (by kernel_rfl) (by kernel_rfl)) ?_
  intro W base args ds gs before hval0 hW hcnd hsz _
  have hval : ∀ (j : Nat) t v, Try.f7.params[j]? = some t → args[j]? = some v → Value.okWide Try.prog W .any base t v := hval0
  have hW' := hW
  obtain ⟨p, q, hA0, hV, rfl, hfz, hnd⟩ := hW
  have hA : DataW.TrodAll enc Try.prog W 0 (fun _ => true) true Try.f7.params.toList args.toList ds p := hA0
  have hsz1 : (DataW.weightsEach Try.prog (Try.f7.params.toList ++ Rows.pointGroupSpec.plain.varTypes Try.prog) (ds ++ gs)).all (· ≤ reachBytes) = true := hsz
  rw [Try.params7] at hA hval hsz1
  obtain ⟨v0, vs0, d0, ds0, p0, q0, hargs, rfl, rfl, h0, r0⟩ := trodAll_cons hA
  obtain ⟨v1, vs1, d1, ds1, p1, q1, rfl, rfl, rfl, h1, r1⟩ := trodAll_cons r0
  obtain ⟨v2, vs2, d2, ds2, p2, q2, rfl, rfl, rfl, h2, r2⟩ := trodAll_cons r1
  obtain ⟨rfl, rfl, rfl⟩ := trodAll_nil r2
  obtain rfl : args = #[v0, v1, v2] := by cases args; simp_all
  obtain ⟨rfl, rfl⟩ := trodVars_none hV
  have k0 := h0
  have lt0 := trod_below h0
  have k1 := h1
  have lt1 := trod_below h1
  have k2 := h2
  have lt2 := trod_below h2
  have s0 : Small Try.prog 22 d0 := small_arg hsz1 (j := 0) rfl rfl
  obtain ⟨a0, m0, c0, rfl⟩ := okWide_slice Try.underlying22 (hval 0 22 v0 rfl rfl)
  obtain ⟨f0, g0⟩ := h0
  obtain ⟨u0, x0, e0, b0, l0⟩ := read_bytes' (t := 22) (e := 5) Try.underlying22 Try.underlying5 cellsE22 bytesE22 g0 s0
  simp [Value.cells] at e0
  subst e0
  have s1 : Small Try.prog 22 d1 := small_arg hsz1 (j := 1) rfl rfl
  obtain ⟨a1, m1, c1, rfl⟩ := okWide_slice Try.underlying22 (hval 1 22 v1 rfl rfl)
  obtain ⟨f1, g1⟩ := h1
  obtain ⟨u1, x1, e1, b1, l1⟩ := read_bytes' (t := 22) (e := 5) Try.underlying22 Try.underlying5 cellsE22 bytesE22 g1 s1
  simp [Value.cells] at e1
  subst e1
  have s2 : Small Try.prog 22 d2 := small_arg hsz1 (j := 2) rfl rfl
  obtain ⟨a2, m2, c2, rfl⟩ := okWide_slice Try.underlying22 (hval 2 22 v2 rfl rfl)
  obtain ⟨f2, g2⟩ := h2
  obtain ⟨u2, x2, e2, b2, l2⟩ := read_bytes' (t := 22) (e := 5) Try.underlying22 Try.underlying5 cellsE22 bytesE22 g2 s2
  simp [Value.cells] at e2
  subst e2
  have hR := pgroup_any _ _ _ x0 x1 x2 W b0 b1 b2
  clear hA0 hval0
  refine (hR.2 : Calls Try.prog 7 _ W _).mono fun e W' ⟨x, he, hx, hk⟩ => ?_
  subst hx
  subst he
  have bel := hk.below0
  exact ⟨_, rfl, _, _, _, [], _, [], hW', trodAll_mk1 (shut_bool Try.underlying4 _), (trodAll_cons_mk (Below.trod laidOut (by kernel_rfl) (of_decide_eq_true (by kernel_rfl)) k0 bel lt0) (trodAll_cons_mk (Below.trod laidOut (by kernel_rfl) (of_decide_eq_true (by kernel_rfl)) k1 bel lt1) (trodAll_cons_mk (Below.trod laidOut (by kernel_rfl) (of_decide_eq_true (by kernel_rfl)) k2 bel lt2) trodAll_mk0))), rfl, bel.frame _, fun h => by cases h⟩
theorem over : Rows.pointGroupRow.holds Try.pinned (OpenSpec.ofChange Rows.pointGroupSpec) :=
  OpenClaim.holds_of_wide 7 Try.f7 rfl rfl rfl rfl rfl rfl rfl ⟨rfl, rfl, rfl, rfl, rfl⟩ rfl rfl rfl rfl rfl (by kernel_rfl) Try.func7 (by kernel_rfl)
    (of_decide_eq_true (by kernel_rfl)) (by unfold Func.isWrapper; first | (rw [if_pos (by decide +kernel)]; kernel_rfl) | (rw [if_neg (by decide +kernel)]; exact ⟨rfl, rfl⟩))
    (fun os started H enc _ => lifted os started H enc)
theorem proved : Rows.PointGroupSaid := over
#print axioms proved
end Go.Proofs.Ytkngeapegpehpaa.PointGroupDone
