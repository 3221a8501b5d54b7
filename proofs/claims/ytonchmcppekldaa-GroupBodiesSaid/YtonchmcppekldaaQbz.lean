/- Proved: 'synodlaw21.GroupBodies' returns true whatever body of a commit and whatever bytes come in, and both read behind the call as before. No condition but the form's own. -/
import Derived.Test.YtonchmcppekldaaRows
import Derived.Test.YtonchmcppekldaaQbg
set_option maxRecDepth 100000
set_option maxHeartbeats 4000000
namespace Go.Proofs.Ytonchmcppekldaa.GroupBodiesDone
open Go Go.Eng Go.Byt Go.ChangeShapes Go.WideShapes Go.ChangeAt Go.RowKit Go.Proofs.Ytonchmcppekldaa.W
set_option linter.unusedVariables false
set_option linter.unusedSimpArgs false
theorem own : ownKnob Try.prog.godebug = none := by kernel_rfl
theorem laidOut : laidOutB Try.prog = true := by kernel_rfl
theorem cells52 : Try.prog.cellsOf 52 = 2 := by kernel_rfl
theorem cells50 : Try.prog.cellsOf 50 = 1 := by kernel_rfl
theorem cells99 : Try.prog.cellsOf 99 = 20 := by kernel_rfl
theorem bytes99 : Try.prog.bytesOf 99 = 416 := by kernel_rfl
theorem cells28 : Try.prog.cellsOf 28 = 19 := by kernel_rfl
theorem cells26 : Try.prog.cellsOf 26 = 8 := by kernel_rfl
theorem cells24 : Try.prog.cellsOf 24 = 6 := by kernel_rfl
theorem cells3 : Try.prog.cellsOf 3 = 1 := by kernel_rfl
theorem cells22 : Try.prog.cellsOf 22 = 1 := by kernel_rfl
theorem cells5 : Try.prog.cellsOf 5 = 1 := by kernel_rfl
theorem bytes5 : Try.prog.bytesOf 5 = 1 := by kernel_rfl
theorem list19 {α : Type} {l : List α} (h : l.length = 19) : ∃ c0 c1 c2 c3 c4 c5 c6 c7 c8 c9 c10 c11 c12 c13 c14 c15 c16 c17 c18, l = [c0, c1, c2, c3, c4, c5, c6, c7, c8, c9, c10, c11, c12, c13, c14, c15, c16, c17, c18] := by
 match l, h with
 | [c0, c1, c2, c3, c4, c5, c6, c7, c8, c9, c10, c11, c12, c13, c14, c15, c16, c17, c18], _ => exact ⟨c0, c1, c2, c3, c4, c5, c6, c7, c8, c9, c10, c11, c12, c13, c14, c15, c16, c17, c18, rfl⟩
theorem prop_cells {H : Type} {enc : TypeId × Value → H} {w : World} {fuel : Nat} {cs : List Value} {y : DataW H × List MemPlace} (hf : DataW.trod enc Try.prog w 0 (fun _ => true) true fuel 28 cs = some y) (hs : Small Try.prog 28 y.1) :
    ∃ (u : P15) (x : Pr), cs = u.cells x ∧ PrRd w u x ∧ PrLen x := by
  obtain ⟨hl, n, hfi⟩ := dC Try.underlying28 hf hs
  rw [cells28] at hl
  obtain ⟨c0, c1, c2, c3, c4, c5, c6, c7, c8, c9, c10, c11, c12, c13, c14, c15, c16, c17, c18, rfl⟩ := list19 hl
  obtain ⟨z0, h0, s0⟩ := hfi 0 _ rfl
  obtain ⟨z1, h1, s1⟩ := hfi 1 _ rfl
  obtain ⟨z2, h2, s2⟩ := hfi 2 _ rfl
  obtain ⟨z3, h3, s3⟩ := hfi 3 _ rfl
  obtain ⟨z4, h4, s4⟩ := hfi 4 _ rfl
  obtain ⟨z5, h5, s5⟩ := hfi 5 _ rfl
  obtain ⟨z6, h6, s6⟩ := hfi 6 _ rfl
  obtain ⟨_, n', hfp⟩ := dC Try.underlying26 h1 s1
  obtain ⟨zp0, hp0, sp0⟩ := hfp 0 _ rfl
  obtain ⟨zp1, hp1, sp1⟩ := hfp 1 _ rfl
  obtain ⟨zp2, hp2, sp2⟩ := hfp 2 _ rfl
  obtain ⟨_, n2', hfl⟩ := dC Try.underlying24 hp1 sp1
  obtain ⟨zl0, hl0, sl0⟩ := hfl 0 _ rfl
  obtain ⟨zl1, hl1, sl1⟩ := hfl 1 _ rfl
  obtain ⟨zl2, hl2, sl2⟩ := hfl 2 _ rfl
  obtain ⟨zl3, hl3, sl3⟩ := hfl 3 _ rfl
  obtain ⟨zl4, hl4, sl4⟩ := hfl 4 _ rfl
  obtain ⟨zl5, hl5, sl5⟩ := hfl 5 _ rfl
  obtain ⟨_, n3', hfm⟩ := dC Try.underlying24 h2 s2
  obtain ⟨zm0, hm0, sm0⟩ := hfm 0 _ rfl
  obtain ⟨zm1, hm1, sm1⟩ := hfm 1 _ rfl
  obtain ⟨zm2, hm2, sm2⟩ := hfm 2 _ rfl
  obtain ⟨zm3, hm3, sm3⟩ := hfm 3 _ rfl
  obtain ⟨zm4, hm4, sm4⟩ := hfm 4 _ rfl
  obtain ⟨zm5, hm5, sm5⟩ := hfm 5 _ rfl
  obtain ⟨na0, ea0, _⟩ := fy (t := 3) Try.underlying3 h0
  obtain ⟨vp0, xp0, ep0, rp0, lp0⟩ := bT (t := 22) (e := 5) Try.underlying22 Try.underlying5 cells5 bytes5 hp0 sp0
  obtain ⟨vl0, xl0, el0, rl0, ll0⟩ := bT (t := 22) (e := 5) Try.underlying22 Try.underlying5 cells5 bytes5 hl0 sl0
  obtain ⟨vl1, xl1, el1, rl1, ll1⟩ := bT (t := 22) (e := 5) Try.underlying22 Try.underlying5 cells5 bytes5 hl1 sl1
  obtain ⟨vl2, xl2, el2, rl2, ll2⟩ := bT (t := 22) (e := 5) Try.underlying22 Try.underlying5 cells5 bytes5 hl2 sl2
  obtain ⟨nl3, el3, _⟩ := fy (t := 3) Try.underlying3 hl3
  obtain ⟨vl4, xl4, el4, rl4, ll4⟩ := bT (t := 22) (e := 5) Try.underlying22 Try.underlying5 cells5 bytes5 hl4 sl4
  obtain ⟨vl5, xl5, el5, rl5, ll5⟩ := bT (t := 22) (e := 5) Try.underlying22 Try.underlying5 cells5 bytes5 hl5 sl5
  obtain ⟨vp2, xp2, ep2, rp2, lp2⟩ := bT (t := 22) (e := 5) Try.underlying22 Try.underlying5 cells5 bytes5 hp2 sp2
  obtain ⟨vm0, xm0, em0, rm0, lm0⟩ := bT (t := 22) (e := 5) Try.underlying22 Try.underlying5 cells5 bytes5 hm0 sm0
  obtain ⟨vm1, xm1, em1, rm1, lm1⟩ := bT (t := 22) (e := 5) Try.underlying22 Try.underlying5 cells5 bytes5 hm1 sm1
  obtain ⟨vm2, xm2, em2, rm2, lm2⟩ := bT (t := 22) (e := 5) Try.underlying22 Try.underlying5 cells5 bytes5 hm2 sm2
  obtain ⟨nm3, em3, _⟩ := fy (t := 3) Try.underlying3 hm3
  obtain ⟨vm4, xm4, em4, rm4, lm4⟩ := bT (t := 22) (e := 5) Try.underlying22 Try.underlying5 cells5 bytes5 hm4 sm4
  obtain ⟨vm5, xm5, em5, rm5, lm5⟩ := bT (t := 22) (e := 5) Try.underlying22 Try.underlying5 cells5 bytes5 hm5 sm5
  obtain ⟨na3, ea3, _⟩ := fy (t := 3) Try.underlying3 h3
  obtain ⟨va4, xa4, ea4, ra4, la4⟩ := bT (t := 22) (e := 5) Try.underlying22 Try.underlying5 cells5 bytes5 h4 s4
  obtain ⟨va5, xa5, ea5, ra5, la5⟩ := bT (t := 22) (e := 5) Try.underlying22 Try.underlying5 cells5 bytes5 h5 s5
  obtain ⟨va6, xa6, ea6, ra6, la6⟩ := bT (t := 22) (e := 5) Try.underlying22 Try.underlying5 cells5 bytes5 h6 s6
  simp [Value.cells, cells26, cells24, cells22, cells3] at ea0 ep0 el0 el1 el2 el3 el4 el5 ep2 em0 em1 em2 em3 em4 em5 ea3 ea4 ea5 ea6
  subst ea0 ep0 el0 el1 el2 el3 el4 el5 ep2 em0 em1 em2 em3 em4 em5 ea3 ea4 ea5 ea6
  exact ⟨⟨_, _, _, _, _, _, _, _, _, _, _, _, _, _, _⟩, ⟨na0, ⟨xp0, ⟨xl0, xl1, xl2, nl3, xl4, xl5⟩, xp2⟩, ⟨xm0, xm1, xm2, nm3, xm4, xm5⟩, na3, xa4, xa5, xa6⟩, rfl, ⟨rp0, rl0, rl1, rl2, rl4, rl5, rp2, rm0, rm1, rm2, rm4, rm5, ra4, ra5, ra6⟩, ⟨lp0, ll0, ll1, ll2, ll4, ll5, lp2, lm0, lm1, lm2, lm4, lm5, la4, la5, la6⟩⟩
theorem list2' {α : Type} {l : List α} (h : l.length = 2) : ∃ a b, l = [a, b] := by
 match l, h with
 | [a, b], _ => exact ⟨a, b, rfl⟩
theorem body_reads {H : Type} {enc : TypeId × Value → H} {w : World} {r : Reach} {b0 : Nat} {v : Value} {d : DataW H} {p : List MemPlace} (hv : Value.okWide Try.prog w r b0 52 v) (h : DataW.Trod enc Try.prog w 0 (fun _ => true) true 52 v d p) (hs : Small Try.prog 52 d) :
    ∃ sv pv ss pa, v = .agg [sv, pv].toArray ∧ RdI w sv ss ∧ RdB w pv pa ∧ (∀ x ∈ ss, x.1.length ≤ 140737488351232 ∧ PrLen x.2) ∧ ss.length * 416 ≤ 140737488351232 ∧ pa.length ≤ 140737488351232 := by
  obtain ⟨cs, rfl, _⟩ := okWide_struct Try.underlying52 hv
  obtain ⟨fuel, hf⟩ := h
  obtain ⟨hl, n, hfi⟩ := dC Try.underlying52 hf hs
  rw [cells52] at hl
  obtain ⟨l⟩ := cs
  obtain ⟨c0, c1, rfl⟩ := list2' (l := l) (by simpa [Value.cells] using hl)
  obtain ⟨z0, h0, s0⟩ := hfi 0 _ rfl
  obtain ⟨z1, h1, s1⟩ := hfi 1 _ rfl
  have item : ∀ (n : Nat) (cs' : List Value) (z : DataW H × List MemPlace), DataW.trod enc Try.prog w 0 (fun _ => true) true n 99 cs' = some z → Small Try.prog 99 z.1 → ∃ x : It, cs'.length = 20 ∧ ItR w cs' x ∧ (x.1.length ≤ 140737488351232 ∧ PrLen x.2) := by
    intro n cs' z hz hsz
    obtain ⟨hl2, n2, hf2⟩ := dC Try.underlying99 hz hsz
    rw [cells99] at hl2
    obtain ⟨y0, g0, t0⟩ := hf2 0 _ rfl
    obtain ⟨y1, g1, t1⟩ := hf2 1 _ rfl
    obtain ⟨v0, x0, e0, r0, l0⟩ := bT (t := 22) (e := 5) Try.underlying22 Try.underlying5 cells5 bytes5 g0 t0
    obtain ⟨u, x, e1, hu, lx⟩ := prop_cells g1 t1
    refine ⟨(x0, x), hl2, ⟨v0, u, ?_, r0, hu⟩, l0, lx⟩
    replace e0 : (cs'.drop 0).take (Try.prog.cellsOf 22) = [v0] := e0
    replace e1 : (cs'.drop 1).take (Try.prog.cellsOf 28) = u.cells x := e1
    rw [cells22] at e0
    rw [cells28] at e1
    cases cs' with
    | nil => cases hl2
    | cons c cs'' =>
      have e0' : c = v0 := by simpa using e0
      have e1' : cs'' = u.cells x := by
        rw [← e1]
        show cs'' = ((c :: cs'').drop 1).take 19
        rw [List.drop_succ_cons, List.drop_zero, List.take_of_length_le (by simp at hl2; omega)]
      rw [e0', e1']
  obtain ⟨v0, ss, e0, r0, l0, m0⟩ := nJ (([], lF) : It) (t := 50) (e := 99) Try.underlying50 cells99 bytes99 (by decide) item h0 s0
  obtain ⟨v1, x1, e1, r1, l1⟩ := bT (t := 22) (e := 5) Try.underlying22 Try.underlying5 cells5 bytes5 h1 s1
  simp [Value.cells, cells50, cells22] at e0 e1
  subst e0 e1
  exact ⟨_, _, ss, x1, rfl, r0, r1, m0, l0, l1⟩
theorem lifted (os : Os) (started : os.Started) (H : Type) (enc : TypeId × Value → H) :
   ReturnsInHanded {} Try.checked os 4 .any (Rows.groupBodiesSpec.pre6 enc Try.prog Try.f4 Rows.groupBodiesRow.domain false) (Rows.groupBodiesSpec.post enc Try.prog Try.f4 false true false false) := by
 refine returnsInHanded_of_change_sized (C := Try.checked) own started (by kernel_rfl) Try.func4
   (ChangeSpec.witness6 (enc := enc) (C := Try.checked) false ⟨#[], #[.agg #[.slice none 0 0, .slice none 0 0], .slice none 0 0], []⟩ 8 (by kernel_rfl) (by kernel_rfl) (by kernel_rfl) (by kernel_rfl)) ?_
 intro W base args ds gs before hval0 hW hcnd hsz _
 have hval : ∀ (j : Nat) t v, Try.f4.params[j]? = some t → args[j]? = some v → Value.okWide Try.prog W .any base t v := hval0
 have hW' := hW
 obtain ⟨p, q, hA0, hV, rfl, hfz, hnd⟩ := hW
 have hA : DataW.TrodAll enc Try.prog W 0 (fun _ => true) true Try.f4.params.toList args.toList ds p := hA0
 have hsz1 : (DataW.weightsEach Try.prog (Try.f4.params.toList ++ Rows.groupBodiesSpec.plain.varTypes Try.prog) (ds ++ gs)).all (· ≤ reachBytes) = true := hsz
 rw [Try.params4] at hA hval hsz1
 obtain ⟨v0, vs0, d0, ds0, p0, q0, hargs, rfl, rfl, h0, r0⟩ := trodAll_cons hA
 obtain ⟨v1, vs1, d1, ds1, p1, q1, rfl, rfl, rfl, h1, r1⟩ := trodAll_cons r0
 obtain ⟨rfl, rfl, rfl⟩ := trodAll_nil r1
 obtain rfl : args = #[v0, v1] := by cases args; simp_all
 obtain ⟨rfl, rfl⟩ := trodVars_none hV
 have k0 := h0
 have k1 := h1
 have lt0 := iA h0
 have lt1 := iA h1
 have s0 : Small Try.prog 52 d0 := it hsz1 (j := 0) rfl rfl
 have s1 : Small Try.prog 22 d1 := it hsz1 (j := 1) rfl rfl
 obtain ⟨sv, pv, ss, pa, e0, hs, hp, hsm, hcn, hil⟩ := body_reads (hval 0 52 v0 rfl rfl) h0 s0
 obtain ⟨a1, m1, c1, rfl⟩ := okWide_slice Try.underlying22 (hval 1 22 v1 rfl rfl)
 obtain ⟨f1, g1⟩ := h1
 obtain ⟨u1, x1, e1, b1, l1⟩ := bT (t := 22) (e := 5) Try.underlying22 Try.underlying5 cells5 bytes5 g1 s1
 simp [Value.cells] at e1
 subst e1
 have hR := lY _ x1 sv pv ss pa W hs hp hsm hcn hil b1 l1
 rw [← e0] at hR
 clear hA0 hval0
 refine (hR.2 : Calls Try.prog 4 _ W _).mono fun e W' ⟨x, he, hx, hk⟩ => ?_
 subst hx
 subst he
 have bel := hk.below0
 exact ⟨_, rfl, _, _, _, [], _, [], hW', trodAll_mk1 (shut_bool Try.underlying4 _), (trodAll_cons_mk (Below.trod laidOut (by kernel_rfl) (of_decide_eq_true (by kernel_rfl)) k0 bel lt0) (trodAll_cons_mk (Below.trod laidOut (by kernel_rfl) (of_decide_eq_true (by kernel_rfl)) k1 bel lt1) trodAll_mk0)), rfl, bel.frame _, fun h => by cases h⟩
theorem over : Rows.groupBodiesRow.holds Try.pinned (OpenSpec.ofChange Rows.groupBodiesSpec) :=
 OpenClaim.holds_of_wide 4 Try.f4 rfl rfl rfl rfl rfl rfl rfl ⟨rfl, rfl, rfl, rfl, rfl⟩ rfl rfl rfl rfl rfl (by kernel_rfl) Try.func4 (by kernel_rfl)
   (of_decide_eq_true (by kernel_rfl)) (by unfold Func.isWrapper; first | (rw [if_pos (by decide +kernel)]; kernel_rfl) | (rw [if_neg (by decide +kernel)]; exact ⟨rfl, rfl⟩))
   (fun os started H enc _ => lifted os started H enc)
theorem proved : Rows.GroupBodiesSaid := over
#print axioms proved
end Go.Proofs.Ytonchmcppekldaa.GroupBodiesDone
