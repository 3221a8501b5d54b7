/- Proved: 'synodlaw18.FramingPublics' returns true whatever comes in, and that reads behind the call as before. No condition but the form's own; the tables tied to the program's text. -/
import Derived.Test.YtjfmmoonpdifcaaDoorRows
import Derived.Test.YtjfmmoonpdifcaaDoorTie
import Derived.Test.YtjfmmoonpdifcaaDoorCards
import Derived.Test.YtjfmmoonpdifcaaDoorQff
set_option maxRecDepth 100000
set_option maxHeartbeats 4000000
namespace Go.Proofs.YtjfmmoonpdifcaaDoor.FramingPublicsDone
open Go Go.Eng Go.Byt Go.ChangeShapes Go.WideShapes Go.ChangeAt Go.RowKit Go.Proofs.YtjfmmoonpdifcaaDoor.W Go.Proofs.YtjfmmoonpdifcaaDoor.SignDone
set_option linter.unusedVariables false
theorem cells3 : Tryd.prog.cellsOf 3 = 1 := by kernel_rfl
theorem cells5 : Tryd.prog.cellsOf 5 = 1 := by kernel_rfl
theorem cells22 : Tryd.prog.cellsOf 22 = 1 := by kernel_rfl
theorem cells24 : Tryd.prog.cellsOf 24 = 7 := by kernel_rfl
theorem cells26 : Tryd.prog.cellsOf 26 = 10 := by kernel_rfl
theorem bytes5 : Tryd.prog.bytesOf 5 = 1 := by kernel_rfl
theorem list10 {α : Type} {l : List α} (h : l.length = 10) : ∃ c0 c1 c2 c3 c4 c5 c6 c7 c8 c9, l = [c0, c1, c2, c3, c4, c5, c6, c7, c8, c9] := by
 match l, h with
 | [c0, c1, c2, c3, c4, c5, c6, c7, c8, c9], _ => exact ⟨c0, c1, c2, c3, c4, c5, c6, c7, c8, c9, rfl⟩
theorem signed_reads {H : Type} {enc : TypeId × Value → H} {w : World} {r : Reach} {b0 : Nat} {v : Value} {d : DataW H} {p : List MemPlace} (hv : Value.okWide Tryd.prog w r b0 26 v) (h : DataW.Trod enc Tryd.prog w 0 (fun _ => true) true 26 v d p) (hs : Small Tryd.prog 26 d) :
    ∃ g m b sg cf, ∃ x : Fm, v = .agg [g, .int .i64 x.ep, .int .i64 x.fr, .int .i64 x.lf, m, .int .i64 x.kd, b, .int .i64 x.wi, sg, cf].toArray ∧ (RdB w g x.gs ∧ RdB w m x.ms ∧ RdB w b x.bs ∧ RdB w sg x.ss ∧ RdB w cf x.cs) ∧ (x.gs.length ≤ 140737488351232 ∧ x.ms.length ≤ 140737488351232 ∧ x.bs.length ≤ 140737488351232 ∧ x.ss.length ≤ 140737488351232 ∧ x.cs.length ≤ 140737488351232) := by
  obtain ⟨cs, rfl, _⟩ := okWide_struct Tryd.underlying26 hv
  obtain ⟨fuel, hf⟩ := h
  obtain ⟨hl, n, hfi⟩ := gA Tryd.underlying26 hf hs
  rw [cells26] at hl
  obtain ⟨l⟩ := cs
  obtain ⟨c0, c1, c2, c3, c4, c5, c6, c7, c8, c9, rfl⟩ := list10 (l := l) (by simpa [Value.cells] using hl)
  obtain ⟨z0, h0, s0⟩ := hfi 0 _ rfl
  obtain ⟨_, n0, hf0⟩ := gA Tryd.underlying24 h0 s0
  obtain ⟨z1, h1, s1⟩ := hf0 0 _ rfl
  obtain ⟨v1, x1, e1, r1, l1⟩ := ce (t := 22) (e := 5) Tryd.underlying22 Tryd.underlying5 cells5 bytes5 h1 s1
  obtain ⟨z2, h2, s2⟩ := hf0 1 _ rfl
  obtain ⟨n2, e2, _⟩ := eq (t := 3) Tryd.underlying3 h2
  obtain ⟨z3, h3, s3⟩ := hf0 2 _ rfl
  obtain ⟨n3, e3, _⟩ := eq (t := 3) Tryd.underlying3 h3
  obtain ⟨z4, h4, s4⟩ := hf0 3 _ rfl
  obtain ⟨n4, e4, _⟩ := eq (t := 3) Tryd.underlying3 h4
  obtain ⟨z5, h5, s5⟩ := hf0 4 _ rfl
  obtain ⟨v5, x5, e5, r5, l5⟩ := ce (t := 22) (e := 5) Tryd.underlying22 Tryd.underlying5 cells5 bytes5 h5 s5
  obtain ⟨z6, h6, s6⟩ := hf0 5 _ rfl
  obtain ⟨n6, e6, _⟩ := eq (t := 3) Tryd.underlying3 h6
  obtain ⟨z7, h7, s7⟩ := hf0 6 _ rfl
  obtain ⟨v7, x7, e7, r7, l7⟩ := ce (t := 22) (e := 5) Tryd.underlying22 Tryd.underlying5 cells5 bytes5 h7 s7
  obtain ⟨z8, h8, s8⟩ := hfi 1 _ rfl
  obtain ⟨n8, e8, _⟩ := eq (t := 3) Tryd.underlying3 h8
  obtain ⟨z9, h9, s9⟩ := hfi 2 _ rfl
  obtain ⟨v9, x9, e9, r9, l9⟩ := ce (t := 22) (e := 5) Tryd.underlying22 Tryd.underlying5 cells5 bytes5 h9 s9
  obtain ⟨z10, h10, s10⟩ := hfi 3 _ rfl
  obtain ⟨v10, x10, e10, r10, l10⟩ := ce (t := 22) (e := 5) Tryd.underlying22 Tryd.underlying5 cells5 bytes5 h10 s10
  simp [Value.cells, cells3, cells22, cells24] at e1 e2 e3 e4 e5 e6 e7 e8 e9 e10
  subst e1 e2 e3 e4 e5 e6 e7 e8 e9 e10
  exact ⟨_, _, _, _, _, ⟨x1, n2, n3, n4, x5, n6, x7, n8, x9, x10⟩, rfl, ⟨r1, r5, r7, r9, r10⟩, ⟨l1, l5, l7, l9, l10⟩⟩
theorem lifted (os : Os) (started : os.Started) (H : Type) (enc : TypeId × Value → H) :
   ReturnsInHanded {} Tryd.checked os 3 .any (fun w args => (Rows.framingPublicsSpec.pre enc Tryd.prog Tryd.f3 Rows.framingPublicsRow.domain false w args ∧ laidMetH Tryd.prog Rows.framingPublicsRow.laid w) ∧ sizedMet enc Tryd.prog Tryd.f3 (OpenSpec.ofChange Rows.framingPublicsSpec) false w args)
     (Rows.framingPublicsSpec.post enc Tryd.prog Tryd.f3 false true false false) := by
 refine returnsInHanded_of_change_and (C := Tryd.checked) (X := fun w _ => laidMetH Tryd.prog Rows.framingPublicsRow.laid w) (fun _ _ _ hh h => h.of_heap hh) own started (by kernel_rfl) Tryd.func3
   (ChangeSpec.witness_shaped (enc := enc) (C := Tryd.checked) (os := os) (X := fun w _ => laidMetH Tryd.prog Rows.framingPublicsRow.laid w) false (World.laidAll Tryd.prog os Rows.framingPublicsRow.laid) #[.agg #[.slice none 0 0, .int .i64 0, .int .i64 0, .int .i64 0, .slice none 0 0, .int .i64 0, .slice none 0 0, .int .i64 0, .slice none 0 0, .slice none 0 0], .slice none 0 0, .slice none 0 0, .slice none 0 0] 8 (World.laidAll_os _ _ _)
     (World.shaped_of_ZipB (by kernel_rfl) (by kernel_rfl)) (by kernel_rfl) (by kernel_rfl) (by kernel_rfl)
     (by rw [MakeChecks.laidMetH_plain _ _ _ (by kernel_rfl)]; exact laidMet_laidAll _ (by kernel_rfl) (by kernel_rfl))) ?_
 intro W base args ds gs before hval0 hW hcnd hsz hL _
 have hval : ∀ (j : Nat) t v, Tryd.f3.params[j]? = some t → args[j]? = some v → Value.okWide Tryd.prog W .any base t v := hval0
 have hW' := hW
 obtain ⟨p, q, hA0, hV, rfl, hfz, hnd⟩ := hW
 have hA : DataW.TrodAll enc Tryd.prog W 0 (fun _ => true) true Tryd.f3.params.toList args.toList ds p := hA0
 have hsz1 : (DataW.weightsEach Tryd.prog (Tryd.f3.params.toList ++ Rows.framingPublicsSpec.plain.varTypes Tryd.prog) (ds ++ gs)).all (· ≤ reachBytes) = true := hsz
 rw [Tryd.params3] at hA hval hsz1
 obtain ⟨v0, vs0, d0, ds0, p0, q0, hargs, rfl, rfl, h0, r0⟩ := trodAll_cons hA
 obtain ⟨v1, vs1, d1, ds1, p1, q1, rfl, rfl, rfl, h1, r1⟩ := trodAll_cons r0
 obtain ⟨v2, vs2, d2, ds2, p2, q2, rfl, rfl, rfl, h2, r2⟩ := trodAll_cons r1
 obtain ⟨v3, vs3, d3, ds3, p3, q3, rfl, rfl, rfl, h3, r3⟩ := trodAll_cons r2
 obtain ⟨rfl, rfl, rfl⟩ := trodAll_nil r3
 obtain rfl : args = #[v0, v1, v2, v3] := by cases args; simp_all
 obtain ⟨rfl, rfl⟩ := trodVars_none hV
 have k0 := h0
 have lt0 := eZ h0
 have k1 := h1
 have lt1 := eZ h1
 have k2 := h2
 have lt2 := eZ h2
 have k3 := h3
 have lt3 := eZ h3
 have s0 : Small Tryd.prog 26 d0 := fF hsz1 (j := 0) rfl rfl
 obtain ⟨y0_0, y0_1, y0_2, y0_3, y0_4, x0, e0, ⟨t0_0, t0_1, t0_2, t0_3, t0_4⟩, ⟨l0_0, l0_1, l0_2, l0_3, l0_4⟩⟩ := signed_reads (hval 0 26 v0 rfl rfl) h0 s0
 have s1 : Small Tryd.prog 22 d1 := fF hsz1 (j := 1) rfl rfl
 obtain ⟨a1, m1, c1, rfl⟩ := okWide_slice Tryd.underlying22 (hval 1 22 v1 rfl rfl)
 obtain ⟨f1, g1⟩ := h1
 obtain ⟨u1, x1, e1, b1, l1⟩ := ce (t := 22) (e := 5) Tryd.underlying22 Tryd.underlying5 cells5 bytes5 g1 s1
 simp [Value.cells] at e1
 subst e1
 have s2 : Small Tryd.prog 22 d2 := fF hsz1 (j := 2) rfl rfl
 obtain ⟨a2, m2, c2, rfl⟩ := okWide_slice Tryd.underlying22 (hval 2 22 v2 rfl rfl)
 obtain ⟨f2, g2⟩ := h2
 obtain ⟨u2, x2, e2, b2, l2⟩ := ce (t := 22) (e := 5) Tryd.underlying22 Tryd.underlying5 cells5 bytes5 g2 s2
 simp [Value.cells] at e2
 subst e2
 have s3 : Small Tryd.prog 22 d3 := fF hsz1 (j := 3) rfl rfl
 obtain ⟨a3, m3, c3, rfl⟩ := okWide_slice Tryd.underlying22 (hval 3 22 v3 rfl rfl)
 obtain ⟨f3, g3⟩ := h3
 obtain ⟨u3, x3, e3, b3, l3⟩ := ce (t := 22) (e := 5) Tryd.underlying22 Tryd.underlying5 cells5 bytes5 g3 s3
 simp [Value.cells] at e3
 subst e3
 have hR := it _ _ _ _ _ _ _ _ x0 x1 x2 x3 W (tabs_of hL) t0_0 t0_1 t0_2 t0_3 t0_4 b1 l1 b2 l0_0 l0_1 l0_2 l0_3 l0_4 b3 l3
 rw [← e0] at hR
 clear hA0 hval0
 refine (hR.2 : Calls Tryd.prog 3 _ W _).mono fun e W' ⟨x, he, hx, hk⟩ => ?_
 subst hx
 subst he
 have bel := hk.below0
 exact ⟨_, rfl, _, _, _, [], _, [], hW', trodAll_mk1 (shut_bool Tryd.underlying4 _), (trodAll_cons_mk (Below.trod laidOut (by kernel_rfl) (of_decide_eq_true (by kernel_rfl)) k0 bel lt0) (trodAll_cons_mk (Below.trod laidOut (by kernel_rfl) (of_decide_eq_true (by kernel_rfl)) k1 bel lt1) (trodAll_cons_mk (Below.trod laidOut (by kernel_rfl) (of_decide_eq_true (by kernel_rfl)) k2 bel lt2) (trodAll_cons_mk (Below.trod laidOut (by kernel_rfl) (of_decide_eq_true (by kernel_rfl)) k3 bel lt3) trodAll_mk0)))), rfl, bel.frame _, fun h => by cases h⟩
theorem over : Rows.framingPublicsRow.holds Tryd.pinned (OpenSpec.ofChange Rows.framingPublicsSpec) :=
 OpenClaim.holds_of_wide 3 Tryd.f3 rfl rfl rfl rfl rfl rfl rfl ⟨rfl, rfl, rfl, rfl, rfl⟩ rfl rfl rfl rfl rfl (by kernel_rfl) Tryd.func3 (by kernel_rfl)
   (of_decide_eq_true (by kernel_rfl)) (by unfold Func.isWrapper; first | (rw [if_pos (by decide +kernel)]; kernel_rfl) | (rw [if_neg (by decide +kernel)]; exact ⟨rfl, rfl⟩))
   (fun os started H enc _ => lifted os started H enc)
theorem proved : Rows.FramingPublicsCardSaid :=
 Claim7.holds_tied_plain_at .later [] [.data, .data] true (true, "e643b2b4eb10dac6530069af5b9a69f2cd66715920e5276b07a0ec13ef9fe396") false over (fun _ h => by cases h) (by kernel_rfl) (fun _ h => by cases h) framingPublics_row_tie rfl ⟨rfl, rfl⟩ (by kernel_rfl) rfl
   (fun f fn hf hfn => by
     obtain rfl : f = 3 := Option.some.inj ((show Tryd.prog.funcNamed "synod/synodlaw18.FramingPublics" = some 3 by kernel_rfl).symm.trans hf) |>.symm
     obtain rfl : fn = Tryd.f3 := (Option.some.inj (Tryd.func3.symm.trans hfn)).symm
     exact ⟨by kernel_rfl, fun j t ht => by
       rw [Tryd.params3] at ht
       have hm : t ∈ [26, 22, 22, 22] := by simpa using Array.mem_of_getElem? ht
       have hall : ([26, 22, 22, 22].all fun u => !Tryd.prog.wantsStandIn u) = true := by kernel_rfl
       exact (show Tryd.prog.wantsStandIn t = false by simpa using List.all_eq_true.1 hall t hm)⟩)
   (by kernel_rfl)
#print axioms proved
end Go.Proofs.YtjfmmoonpdifcaaDoor.FramingPublicsDone
