/- Proved: 'synodlaw18.FramingApart' returns true whatever two contents come in, and both read behind the call as before. No condition but the form's own. -/
import Derived.Test.YtdbfpmkilchilaaRows
import Derived.Test.YtdbfpmkilchilaaFrb
import Derived.Test.YtdbfpmkilchilaaEngR
namespace Go.Proofs.Ytdbfpmkilchilaa.FramingApartDone
open Go Go.Eng Go.ChangeShapes Go.WideShapes Go.ChangeAt Go.RowKit Go.Proofs.Ytdbfpmkilchilaa.W
set_option linter.unusedVariables false
theorem own : ownKnob Try.prog.godebug = none := by kernel_rfl
theorem laidOut : laidOutB Try.prog = true := by kernel_rfl
theorem cells24 : Try.prog.cellsOf 24 = 7 := by kernel_rfl
theorem cells22 : Try.prog.cellsOf 22 = 1 := by kernel_rfl
theorem cells3 : Try.prog.cellsOf 3 = 1 := by kernel_rfl
theorem cells5 : Try.prog.cellsOf 5 = 1 := by kernel_rfl
theorem bytes5 : Try.prog.bytesOf 5 = 1 := by kernel_rfl
set_option maxRecDepth 100000 in
theorem content_reads {H : Type} {enc : TypeId × Value → H} {w : World} {r : Reach} {b0 : Nat} {v : Value} {d : DataW H} {p : List MemPlace} (hv : Value.okWide Try.prog w r b0 24 v) (h : DataW.Trod enc Try.prog w 0 (fun _ => true) true 24 v d p) (hs : Small Try.prog 24 d) :
    ∃ g m b gs ms bs ep fr lf kd, v = .agg [g, .int .i64 ep, .int .i64 fr, .int .i64 lf, m, .int .i64 kd, b].toArray ∧ RdB w g gs ∧ RdB w m ms ∧ RdB w b bs ∧ gs.length ≤ 140737488355328 ∧ ms.length ≤ 140737488355328 ∧ bs.length ≤ 140737488355328 := by
  obtain ⟨cs, rfl, _⟩ := okWide_struct Try.underlying24 hv
  obtain ⟨fuel, hf⟩ := h
  obtain ⟨hl, n, hfi⟩ := read_struct Try.underlying24 hf hs
  rw [cells24] at hl
  obtain ⟨l⟩ := cs
  obtain ⟨c0, c1, c2, c3, c4, c5, c6, rfl⟩ := list7 (l := l) (by simpa [Value.cells] using hl)
  obtain ⟨z0, h0, s0⟩ := hfi 0 _ rfl
  obtain ⟨z1, h1, s1⟩ := hfi 1 _ rfl
  obtain ⟨z2, h2, s2⟩ := hfi 2 _ rfl
  obtain ⟨z3, h3, s3⟩ := hfi 3 _ rfl
  obtain ⟨z4, h4, s4⟩ := hfi 4 _ rfl
  obtain ⟨z5, h5, s5⟩ := hfi 5 _ rfl
  obtain ⟨z6, h6, s6⟩ := hfi 6 _ rfl
  obtain ⟨v0, x0, e0, r0, l0⟩ := read_bytes (t := 22) (e := 5) Try.underlying22 Try.underlying5 cells5 bytes5 h0 s0
  obtain ⟨n1, e1, _⟩ := read_int (t := 3) Try.underlying3 h1
  obtain ⟨n2, e2, _⟩ := read_int (t := 3) Try.underlying3 h2
  obtain ⟨n3, e3, _⟩ := read_int (t := 3) Try.underlying3 h3
  obtain ⟨v4, x4, e4, r4, l4⟩ := read_bytes (t := 22) (e := 5) Try.underlying22 Try.underlying5 cells5 bytes5 h4 s4
  obtain ⟨n5, e5, _⟩ := read_int (t := 3) Try.underlying3 h5
  obtain ⟨v6, x6, e6, r6, l6⟩ := read_bytes (t := 22) (e := 5) Try.underlying22 Try.underlying5 cells5 bytes5 h6 s6
  simp [Value.cells, cells22, cells3] at e0 e1 e2 e3 e4 e5 e6
  subst e0 e1 e2 e3 e4 e5 e6
  exact ⟨_, _, _, x0, x4, x6, _, _, _, _, rfl, r0, r4, r6, l0, l4, l6⟩
set_option maxRecDepth 100000 in
theorem lifted (os : Os) (started : os.Started) (H : Type) (enc : TypeId × Value → H) :
    ReturnsInHanded {} Try.checked os 3 .any (Rows.framingApartSpec.pre6 enc Try.prog Try.f3 Rows.framingApartRow.domain false) (Rows.framingApartSpec.post enc Try.prog Try.f3 false true false false) := by
  refine returnsInHanded_of_change_sized (C := Try.checked) own started (by kernel_rfl) Try.func3
    (ChangeSpec.witness6 (enc := enc) (C := Try.checked) false ⟨#[], #[.agg #[.slice none 0 0, .int .i64 0, .int .i64 0, .int .i64 0, .slice none 0 0, .int .i64 0, .slice none 0 0], .agg #[.slice none 0 0, .int .i64 0, .int .i64 0, .int .i64 0, .slice none 0 0, .int .i64 0, .slice none 0 0]], []⟩ 8 (by kernel_rfl) (by kernel_rfl) (by kernel_rfl) (by kernel_rfl)) ?_
  intro W base args ds gs before hval0 hW hcnd hsz _
  have hval : ∀ (j : Nat) t v, Try.f3.params[j]? = some t → args[j]? = some v → Value.okWide Try.prog W .any base t v := hval0
  have hW' := hW
  obtain ⟨p, q, hA0, hV, rfl, hfz, hnd⟩ := hW
  have hA : DataW.TrodAll enc Try.prog W 0 (fun _ => true) true Try.f3.params.toList args.toList ds p := hA0
  have hsz1 : (DataW.weightsEach Try.prog (Try.f3.params.toList ++ Rows.framingApartSpec.plain.varTypes Try.prog) (ds ++ gs)).all (· ≤ reachBytes) = true := hsz
  rw [Try.params3] at hA hval hsz1
  obtain ⟨v0, vs0, d0, ds0, p0, q0, hargs, rfl, rfl, h0, r0⟩ := trodAll_cons hA
  obtain ⟨v1, vs1, d1, ds1, p1, q1, rfl, rfl, rfl, h1, r1⟩ := trodAll_cons r0
  obtain ⟨rfl, rfl, rfl⟩ := trodAll_nil r1
  obtain rfl : args = #[v0, v1] := by cases args; simp_all
  obtain ⟨rfl, rfl⟩ := trodVars_none hV
  have k0 := h0
  have k1 := h1
  have lt0 := trod_below h0
  have lt1 := trod_below h1
  have s0 : Small Try.prog 24 d0 := small_arg hsz1 (j := 0) rfl rfl
  have s1 : Small Try.prog 24 d1 := small_arg hsz1 (j := 1) rfl rfl
  obtain ⟨g, m, b, gs, ms, bs, ep, fr, lf, kd, e0, hg, hm, hb, sg, sm, sb⟩ := content_reads (hval 0 24 v0 rfl rfl) h0 s0
  obtain ⟨gz, mz, bz, gs2, ms2, bs2, ep2, fr2, lf2, kd2, e1, hgz, hmz, hbz, sg2, sm2, sb2⟩ := content_reads (hval 1 24 v1 rfl rfl) h1 s1
  have hR := framing_apart_any g m b gs ms bs ep fr lf kd W hg hm hb gz mz bz gs2 ms2 bs2 ep2 fr2 lf2 kd2 hgz hmz hbz sg sm sb sg2 sm2 sb2
  rw [← e0, ← e1] at hR
  clear hA0 hval0
  refine (hR.2 : Calls Try.prog 3 #[v0, v1] W _).mono fun e W' ⟨x, he, hx, hk⟩ => ?_
  subst hx
  subst he
  have bel := hk.below0
  exact ⟨_, rfl, _, _, _, [], _, [], hW', trodAll_mk1 (shut_bool Try.underlying4 _), (trodAll_cons_mk (Below.trod laidOut (by kernel_rfl) (of_decide_eq_true (by kernel_rfl)) k0 bel lt0) (trodAll_cons_mk (Below.trod laidOut (by kernel_rfl) (of_decide_eq_true (by kernel_rfl)) k1 bel lt1) trodAll_mk0)), rfl, bel.frame _, fun h => by cases h⟩
theorem over : Rows.framingApartRow.holds Try.pinned (OpenSpec.ofChange Rows.framingApartSpec) :=
  OpenClaim.holds_of_wide 3 Try.f3 rfl rfl rfl rfl rfl rfl rfl ⟨rfl, rfl, rfl, rfl, rfl⟩ rfl rfl rfl rfl rfl (by kernel_rfl) Try.func3 (by kernel_rfl)
    (of_decide_eq_true (by kernel_rfl)) (by unfold Func.isWrapper; first | (rw [if_pos (by decide +kernel)]; kernel_rfl) | (rw [if_neg (by decide +kernel)]; exact ⟨rfl, rfl⟩))
    (fun os started H enc _ => lifted os started H enc)
theorem proved : Rows.FramingApartSaid := over
#print axioms proved
end Go.Proofs.Ytdbfpmkilchilaa.FramingApartDone
