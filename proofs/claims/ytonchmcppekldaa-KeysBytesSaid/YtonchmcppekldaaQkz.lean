/- Proved: 'synodlaw20.KeysBytes' returns true whatever proposal and whatever bytes come in, and both read behind the call as before. No condition but the form's own. -/
import Derived.Test.YtonchmcppekldaaRows
import Derived.Test.YtonchmcppekldaaQkf
namespace Go.Proofs.Ytonchmcppekldaa.KeysBytesDone
open Go Go.Eng Go.Byt Go.ChangeShapes Go.WideShapes Go.ChangeAt Go.RowKit Go.Proofs.Ytonchmcppekldaa.W
set_option linter.unusedVariables false
theorem own : ownKnob Try.prog.godebug = none := by kernel_rfl
theorem laidOut : laidOutB Try.prog = true := by kernel_rfl
theorem cells28 : Try.prog.cellsOf 28 = 19 := by kernel_rfl
theorem cells26 : Try.prog.cellsOf 26 = 8 := by kernel_rfl
theorem cells24 : Try.prog.cellsOf 24 = 6 := by kernel_rfl
theorem cells3 : Try.prog.cellsOf 3 = 1 := by kernel_rfl
theorem cells22 : Try.prog.cellsOf 22 = 1 := by kernel_rfl
theorem cells5 : Try.prog.cellsOf 5 = 1 := by kernel_rfl
theorem bytes5 : Try.prog.bytesOf 5 = 1 := by kernel_rfl
theorem list19 {α : Type} {l : List α} (h : l.length = 19) : ∃ c0 c1 c2 c3 c4 c5 c6 c7 c8 c9 c10 c11 c12 c13 c14 c15 c16 c17 c18, l = [c0, c1, c2, c3, c4, c5, c6, c7, c8, c9, c10, c11, c12, c13, c14, c15, c16, c17, c18] := by
  match l, h with
  | [c0, c1, c2, c3, c4, c5, c6, c7, c8, c9, c10, c11, c12, c13, c14, c15, c16, c17, c18], _ => exact ⟨c0, c1, c2, c3, c4, c5, c6, c7, c8, c9, c10, c11, c12, c13, c14, c15, c16, c17, c18, rfl⟩
set_option maxRecDepth 100000 in
theorem prop_reads {H : Type} {enc : TypeId × Value → H} {w : World} {r : Reach} {b0 : Nat} {v : Value} {d : DataW H} {p : List MemPlace} (hv : Value.okWide Try.prog w r b0 28 v) (h : DataW.Trod enc Try.prog w 0 (fun _ => true) true 28 v d p) (hs : Small Try.prog 28 d) :
    ∃ i e s n h g gg e2 s2 n2 h2 g2 y1 y2 y3, ∃ x : Pr, v = .agg [.int .i64 x.kind, i, e, s, n, .int .i64 x.pk.leaf.src, h, g, gg, e2, s2, n2, .int .i64 x.lf.src, h2, g2, .int .i64 x.ix, y1, y2, y3].toArray ∧ (RdB w i x.pk.init ∧ RdB w e x.pk.leaf.enc ∧ RdB w s x.pk.leaf.sig ∧ RdB w n x.pk.leaf.name ∧ RdB w h x.pk.leaf.hash ∧ RdB w g x.pk.leaf.sg ∧ RdB w gg x.pk.sg ∧ RdB w e2 x.lf.enc ∧ RdB w s2 x.lf.sig ∧ RdB w n2 x.lf.name ∧ RdB w h2 x.lf.hash ∧ RdB w g2 x.lf.sg ∧ RdB w y1 x.psk ∧ RdB w y2 x.nonce ∧ RdB w y3 x.enc) ∧ (x.pk.init.length ≤ 140737488351232 ∧ x.pk.leaf.enc.length ≤ 140737488351232 ∧ x.pk.leaf.sig.length ≤ 140737488351232 ∧ x.pk.leaf.name.length ≤ 140737488351232 ∧ x.pk.leaf.hash.length ≤ 140737488351232 ∧ x.pk.leaf.sg.length ≤ 140737488351232 ∧ x.pk.sg.length ≤ 140737488351232 ∧ x.lf.enc.length ≤ 140737488351232 ∧ x.lf.sig.length ≤ 140737488351232 ∧ x.lf.name.length ≤ 140737488351232 ∧ x.lf.hash.length ≤ 140737488351232 ∧ x.lf.sg.length ≤ 140737488351232 ∧ x.psk.length ≤ 140737488351232 ∧ x.nonce.length ≤ 140737488351232 ∧ x.enc.length ≤ 140737488351232) := by
  obtain ⟨cs, rfl, _⟩ := okWide_struct Try.underlying28 hv
  obtain ⟨fuel, hf⟩ := h
  obtain ⟨hl, n, hfi⟩ := read_struct Try.underlying28 hf hs
  rw [cells28] at hl
  obtain ⟨l⟩ := cs
  obtain ⟨c0, c1, c2, c3, c4, c5, c6, c7, c8, c9, c10, c11, c12, c13, c14, c15, c16, c17, c18, rfl⟩ := list19 (l := l) (by simpa [Value.cells] using hl)
  obtain ⟨z0, h0, s0⟩ := hfi 0 _ rfl
  obtain ⟨z1, h1, s1⟩ := hfi 1 _ rfl
  obtain ⟨z2, h2, s2⟩ := hfi 2 _ rfl
  obtain ⟨z3, h3, s3⟩ := hfi 3 _ rfl
  obtain ⟨z4, h4, s4⟩ := hfi 4 _ rfl
  obtain ⟨z5, h5, s5⟩ := hfi 5 _ rfl
  obtain ⟨z6, h6, s6⟩ := hfi 6 _ rfl
  obtain ⟨_, n', hfp⟩ := read_struct Try.underlying26 h1 s1
  obtain ⟨zp0, hp0, sp0⟩ := hfp 0 _ rfl
  obtain ⟨zp1, hp1, sp1⟩ := hfp 1 _ rfl
  obtain ⟨zp2, hp2, sp2⟩ := hfp 2 _ rfl
  obtain ⟨_, n2', hfl⟩ := read_struct Try.underlying24 hp1 sp1
  obtain ⟨zl0, hl0, sl0⟩ := hfl 0 _ rfl
  obtain ⟨zl1, hl1, sl1⟩ := hfl 1 _ rfl
  obtain ⟨zl2, hl2, sl2⟩ := hfl 2 _ rfl
  obtain ⟨zl3, hl3, sl3⟩ := hfl 3 _ rfl
  obtain ⟨zl4, hl4, sl4⟩ := hfl 4 _ rfl
  obtain ⟨zl5, hl5, sl5⟩ := hfl 5 _ rfl
  obtain ⟨_, n3', hfm⟩ := read_struct Try.underlying24 h2 s2
  obtain ⟨zm0, hm0, sm0⟩ := hfm 0 _ rfl
  obtain ⟨zm1, hm1, sm1⟩ := hfm 1 _ rfl
  obtain ⟨zm2, hm2, sm2⟩ := hfm 2 _ rfl
  obtain ⟨zm3, hm3, sm3⟩ := hfm 3 _ rfl
  obtain ⟨zm4, hm4, sm4⟩ := hfm 4 _ rfl
  obtain ⟨zm5, hm5, sm5⟩ := hfm 5 _ rfl
  obtain ⟨na0, ea0, _⟩ := read_int (t := 3) Try.underlying3 h0
  obtain ⟨vp0, xp0, ep0, rp0, lp0⟩ := read_bytes' (t := 22) (e := 5) Try.underlying22 Try.underlying5 cells5 bytes5 hp0 sp0
  obtain ⟨vl0, xl0, el0, rl0, ll0⟩ := read_bytes' (t := 22) (e := 5) Try.underlying22 Try.underlying5 cells5 bytes5 hl0 sl0
  obtain ⟨vl1, xl1, el1, rl1, ll1⟩ := read_bytes' (t := 22) (e := 5) Try.underlying22 Try.underlying5 cells5 bytes5 hl1 sl1
  obtain ⟨vl2, xl2, el2, rl2, ll2⟩ := read_bytes' (t := 22) (e := 5) Try.underlying22 Try.underlying5 cells5 bytes5 hl2 sl2
  obtain ⟨nl3, el3, _⟩ := read_int (t := 3) Try.underlying3 hl3
  obtain ⟨vl4, xl4, el4, rl4, ll4⟩ := read_bytes' (t := 22) (e := 5) Try.underlying22 Try.underlying5 cells5 bytes5 hl4 sl4
  obtain ⟨vl5, xl5, el5, rl5, ll5⟩ := read_bytes' (t := 22) (e := 5) Try.underlying22 Try.underlying5 cells5 bytes5 hl5 sl5
  obtain ⟨vp2, xp2, ep2, rp2, lp2⟩ := read_bytes' (t := 22) (e := 5) Try.underlying22 Try.underlying5 cells5 bytes5 hp2 sp2
  obtain ⟨vm0, xm0, em0, rm0, lm0⟩ := read_bytes' (t := 22) (e := 5) Try.underlying22 Try.underlying5 cells5 bytes5 hm0 sm0
  obtain ⟨vm1, xm1, em1, rm1, lm1⟩ := read_bytes' (t := 22) (e := 5) Try.underlying22 Try.underlying5 cells5 bytes5 hm1 sm1
  obtain ⟨vm2, xm2, em2, rm2, lm2⟩ := read_bytes' (t := 22) (e := 5) Try.underlying22 Try.underlying5 cells5 bytes5 hm2 sm2
  obtain ⟨nm3, em3, _⟩ := read_int (t := 3) Try.underlying3 hm3
  obtain ⟨vm4, xm4, em4, rm4, lm4⟩ := read_bytes' (t := 22) (e := 5) Try.underlying22 Try.underlying5 cells5 bytes5 hm4 sm4
  obtain ⟨vm5, xm5, em5, rm5, lm5⟩ := read_bytes' (t := 22) (e := 5) Try.underlying22 Try.underlying5 cells5 bytes5 hm5 sm5
  obtain ⟨na3, ea3, _⟩ := read_int (t := 3) Try.underlying3 h3
  obtain ⟨va4, xa4, ea4, ra4, la4⟩ := read_bytes' (t := 22) (e := 5) Try.underlying22 Try.underlying5 cells5 bytes5 h4 s4
  obtain ⟨va5, xa5, ea5, ra5, la5⟩ := read_bytes' (t := 22) (e := 5) Try.underlying22 Try.underlying5 cells5 bytes5 h5 s5
  obtain ⟨va6, xa6, ea6, ra6, la6⟩ := read_bytes' (t := 22) (e := 5) Try.underlying22 Try.underlying5 cells5 bytes5 h6 s6
  simp [Value.cells, cells26, cells24, cells22, cells3] at ea0 ep0 el0 el1 el2 el3 el4 el5 ep2 em0 em1 em2 em3 em4 em5 ea3 ea4 ea5 ea6
  subst ea0 ep0 el0 el1 el2 el3 el4 el5 ep2 em0 em1 em2 em3 em4 em5 ea3 ea4 ea5 ea6
  exact ⟨_, _, _, _, _, _, _, _, _, _, _, _, _, _, _, ⟨na0, ⟨xp0, ⟨xl0, xl1, xl2, nl3, xl4, xl5⟩, xp2⟩, ⟨xm0, xm1, xm2, nm3, xm4, xm5⟩, na3, xa4, xa5, xa6⟩, rfl, ⟨rp0, rl0, rl1, rl2, rl4, rl5, rp2, rm0, rm1, rm2, rm4, rm5, ra4, ra5, ra6⟩, ⟨lp0, ll0, ll1, ll2, ll4, ll5, lp2, lm0, lm1, lm2, lm4, lm5, la4, la5, la6⟩⟩
set_option maxRecDepth 100000 in
theorem lifted (os : Os) (started : os.Started) (H : Type) (enc : TypeId × Value → H) :
    ReturnsInHanded {} Try.checked os 3 .any (Rows.keysBytesSpec.pre6 enc Try.prog Try.f3 Rows.keysBytesRow.domain false) (Rows.keysBytesSpec.post enc Try.prog Try.f3 false true false false) := by
  refine returnsInHanded_of_change_sized (C := Try.checked) own started (by kernel_rfl) Try.func3
    (ChangeSpec.witness6 (enc := enc) (C := Try.checked) false ⟨#[], #[.agg #[.int .i64 0, .slice none 0 0, .slice none 0 0, .slice none 0 0, .slice none 0 0, .int .i64 0, .slice none 0 0, .slice none 0 0, .slice none 0 0, .slice none 0 0, .slice none 0 0, .slice none 0 0, .int .i64 0, .slice none 0 0, .slice none 0 0, .int .i64 0, .slice none 0 0, .slice none 0 0, .slice none 0 0], .slice none 0 0], []⟩ 8 (by kernel_rfl) (by kernel_rfl) (by kernel_rfl) (by kernel_rfl)) ?_
  intro W base args ds gs before hval0 hW hcnd hsz _
  have hval : ∀ (j : Nat) t v, Try.f3.params[j]? = some t → args[j]? = some v → Value.okWide Try.prog W .any base t v := hval0
  have hW' := hW
  obtain ⟨p, q, hA0, hV, rfl, hfz, hnd⟩ := hW
  have hA : DataW.TrodAll enc Try.prog W 0 (fun _ => true) true Try.f3.params.toList args.toList ds p := hA0
  have hsz1 : (DataW.weightsEach Try.prog (Try.f3.params.toList ++ Rows.keysBytesSpec.plain.varTypes Try.prog) (ds ++ gs)).all (· ≤ reachBytes) = true := hsz
  rw [Try.params3] at hA hval hsz1
  obtain ⟨v0, vs0, d0, ds0, p0, q0, hargs, rfl, rfl, h0, r0⟩ := trodAll_cons hA
  obtain ⟨v1, vs1, d1, ds1, p1, q1, rfl, rfl, rfl, h1, r1⟩ := trodAll_cons r0
  obtain ⟨rfl, rfl, rfl⟩ := trodAll_nil r1
  obtain rfl : args = #[v0, v1] := by cases args; simp_all
  obtain ⟨rfl, rfl⟩ := trodVars_none hV
  have k0 := h0
  have k1 := h1
  have lt0 := trod_below h0
  have lt1 := trod_below h1
  have s0 : Small Try.prog 28 d0 := small_arg hsz1 (j := 0) rfl rfl
  have s1 : Small Try.prog 22 d1 := small_arg hsz1 (j := 1) rfl rfl
  obtain ⟨iv, ev, sv, nv, hv, gv, ggv, e2v, s2v, n2v, h2v, g2v, y1v, y2v, y3v, x, e0, ⟨hqi, hqe, hqs, hqn, hqh, hqg, hqgg, hqe2, hqs2, hqn2, hqh2, hqg2, hqy1, hqy2, hqy3⟩, ⟨lqi, lqe, lqs, lqn, lqh, lqg, lqgg, lqe2, lqs2, lqn2, lqh2, lqg2, lqy1, lqy2, lqy3⟩⟩ := prop_reads (hval 0 28 v0 rfl rfl) h0 s0
  obtain ⟨a1, m1, c1, rfl⟩ := okWide_slice Try.underlying22 (hval 1 22 v1 rfl rfl)
  obtain ⟨f1, g1⟩ := h1
  obtain ⟨u1, x1, e1, b1, l1⟩ := read_bytes' (t := 22) (e := 5) Try.underlying22 Try.underlying5 cells5 bytes5 g1 s1
  simp [Value.cells] at e1
  subst e1
  have hR := keysbytes_any _ x1 iv ev sv nv hv gv ggv e2v s2v n2v h2v g2v y1v y2v y3v x W hqi hqe hqs hqn hqh hqg hqgg hqe2 hqs2 hqn2 hqh2 hqg2 hqy1 hqy2 hqy3 lqi lqe lqs lqn lqh lqg lqgg lqe2 lqs2 lqn2 lqh2 lqg2 lqy1 lqy2 lqy3 b1 l1
  rw [← e0] at hR
  clear hA0 hval0
  refine (hR.2 : Calls Try.prog 3 _ W _).mono fun e W' ⟨x, he, hx, hk⟩ => ?_
  subst hx
  subst he
  have bel := hk.below0
  exact ⟨_, rfl, _, _, _, [], _, [], hW', trodAll_mk1 (shut_bool Try.underlying4 _), (trodAll_cons_mk (Below.trod laidOut (by kernel_rfl) (of_decide_eq_true (by kernel_rfl)) k0 bel lt0) (trodAll_cons_mk (Below.trod laidOut (by kernel_rfl) (of_decide_eq_true (by kernel_rfl)) k1 bel lt1) trodAll_mk0)), rfl, bel.frame _, fun h => by cases h⟩
theorem over : Rows.keysBytesRow.holds Try.pinned (OpenSpec.ofChange Rows.keysBytesSpec) :=
  OpenClaim.holds_of_wide 3 Try.f3 rfl rfl rfl rfl rfl rfl rfl ⟨rfl, rfl, rfl, rfl, rfl⟩ rfl rfl rfl rfl rfl (by kernel_rfl) Try.func3 (by kernel_rfl)
    (of_decide_eq_true (by kernel_rfl)) (by unfold Func.isWrapper; first | (rw [if_pos (by decide +kernel)]; kernel_rfl) | (rw [if_neg (by decide +kernel)]; exact ⟨rfl, rfl⟩))
    (fun os started H enc _ => lifted os started H enc)
theorem proved : Rows.KeysBytesSaid := over
#print axioms proved
end Go.Proofs.Ytonchmcppekldaa.KeysBytesDone
