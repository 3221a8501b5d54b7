/- Proved: 'synodlaw07.SignHolds' returns true whatever bytes come in, and they read behind the call as before; the tables' words tied to the program's text. -/
import Derived.Test.YtllmbkmghmmhfaaDoorTie
import Derived.Test.YtllmbkmghmmhfaaDoorCards
import Derived.Test.YtllmbkmghmmhfaaDoorQhe
set_option maxRecDepth 100000
set_option maxHeartbeats 4000000
namespace Go.Proofs.YtllmbkmghmmhfaaDoor.SignHoldsDone
open Go Go.Eng Go.Byt Go.ChangeShapes Go.WideShapes Go.ChangeAt Go.RowKit Go.Proofs.YtllmbkmghmmhfaaDoor.W Go.Proofs.YtllmbkmghmmhfaaDoor.SignDone
set_option linter.unusedVariables false
theorem cells5 : Tryd.prog.cellsOf 5 = 1 := by kernel_rfl
theorem bytes5 : Tryd.prog.bytesOf 5 = 1 := by kernel_rfl
theorem lifted (os : Os) (started : os.Started) (H : Type) (enc : TypeId × Value → H) :
   ReturnsInHanded {} Tryd.checked os 3 .any (fun w args => (Rows.signHoldsSpec.pre enc Tryd.prog Tryd.f3 Rows.signHoldsRow.domain false w args ∧ laidMetH Tryd.prog Rows.signHoldsRow.laid w) ∧ sizedMet enc Tryd.prog Tryd.f3 (OpenSpec.ofChange Rows.signHoldsSpec) false w args)
     (Rows.signHoldsSpec.post enc Tryd.prog Tryd.f3 false true false false) := by
 refine returnsInHanded_of_change_and (C := Tryd.checked) (X := fun w _ => laidMetH Tryd.prog Rows.signHoldsRow.laid w) (fun _ _ _ hh h => h.of_heap hh) own started (by kernel_rfl) Tryd.func3
   (ChangeSpec.witness_shaped (enc := enc) (C := Tryd.checked) (os := os) (X := fun w _ => laidMetH Tryd.prog Rows.signHoldsRow.laid w) false (World.laidAll Tryd.prog os Rows.signHoldsRow.laid) #[.slice none 0 0, .slice none 0 0, .int .i64 0, .int .u8 0] 8 (World.laidAll_os _ _ _)
     (World.shaped_of_ZipB (by kernel_rfl) (by kernel_rfl)) (by kernel_rfl) (by kernel_rfl) (by kernel_rfl)
     (by rw [MakeChecks.laidMetH_plain _ _ _ (by kernel_rfl)]; exact laidMet_laidAll _ (by kernel_rfl) (by kernel_rfl))) ?_
 intro W base args ds gs before hval0 hW hcnd hsz hL _
 have hval : ∀ (j : Nat) t v, Tryd.f3.params[j]? = some t → args[j]? = some v → Value.okWide Tryd.prog W .any base t v := hval0
 have hW' := hW
 obtain ⟨p, q, hA0, hV, rfl, hfz, hnd⟩ := hW
 have hA : DataW.TrodAll enc Tryd.prog W 0 (fun _ => true) true Tryd.f3.params.toList args.toList ds p := hA0
 have hsz1 : (DataW.weightsEach Tryd.prog (Tryd.f3.params.toList ++ Rows.signHoldsSpec.plain.varTypes Tryd.prog) (ds ++ gs)).all (· ≤ reachBytes) = true := hsz
 rw [Tryd.params3] at hA hval hsz1
 obtain ⟨v0, vs0, d0, ds0, p0, q0, hargs, rfl, rfl, h0, r0⟩ := trodAll_cons hA
 obtain ⟨v1, vs1, d1, ds1, p1, q1, rfl, rfl, rfl, h1, r1⟩ := trodAll_cons r0
 obtain ⟨v2, vs2, d2, ds2, p2, q2, rfl, rfl, rfl, h2, r2⟩ := trodAll_cons r1
 obtain ⟨v3, vs3, d3, ds3, p3, q3, rfl, rfl, rfl, h3, r3⟩ := trodAll_cons r2
 obtain ⟨rfl, rfl, rfl⟩ := trodAll_nil r3
 obtain rfl : args = #[v0, v1, v2, v3] := by cases args; simp_all
 obtain ⟨rfl, rfl⟩ := trodVars_none hV
 have k0 := h0
 have lt0 := eP h0
 have k1 := h1
 have lt1 := eP h1
 have k2 := h2
 have lt2 := eP h2
 have k3 := h3
 have lt3 := eP h3
 have s0 : Small Tryd.prog 22 d0 := i5 hsz1 (j := 0) rfl rfl
 have s1 : Small Tryd.prog 22 d1 := i5 hsz1 (j := 1) rfl rfl
 obtain ⟨n2, rfl⟩ := okWide_int Tryd.underlying3 (hval 2 3 v2 rfl rfl)
 obtain ⟨b3, rfl⟩ := me Tryd.underlying5 (hval 3 5 v3 rfl rfl)
 obtain ⟨a0, m0, c0, rfl⟩ := okWide_slice Tryd.underlying22 (hval 0 22 v0 rfl rfl)
 obtain ⟨f0, g0⟩ := h0
 obtain ⟨u0, x0, e0, b0, l0⟩ := gK (t := 22) (e := 5) Tryd.underlying22 Tryd.underlying5 cells5 bytes5 g0 s0
 simp [Value.cells] at e0
 subst e0
 obtain ⟨a1, m1, c1, rfl⟩ := okWide_slice Tryd.underlying22 (hval 1 22 v1 rfl rfl)
 obtain ⟨f1, g1⟩ := h1
 obtain ⟨u1, x1, e1, b1, l1⟩ := gK (t := 22) (e := 5) Tryd.underlying22 Tryd.underlying5 cells5 bytes5 g1 s1
 simp [Value.cells] at e1
 subst e1
 have hR := iX _ _ n2 b3 x0 x1 W (tabs_of hL) b0 b1 l0 l1
 clear hA0 hval0
 refine (hR.2 : Calls Tryd.prog 3 _ W _).mono fun e W' ⟨x, he, hx, hk⟩ => ?_
 subst hx
 subst he
 have bel := hk.below0
 exact ⟨_, rfl, _, _, _, [], _, [], hW', trodAll_mk1 (shut_bool Tryd.underlying4 _), (trodAll_cons_mk (Below.trod laidOut (by kernel_rfl) (of_decide_eq_true (by kernel_rfl)) k0 bel lt0) (trodAll_cons_mk (Below.trod laidOut (by kernel_rfl) (of_decide_eq_true (by kernel_rfl)) k1 bel lt1) (trodAll_cons_mk (Below.trod laidOut (by kernel_rfl) (of_decide_eq_true (by kernel_rfl)) k2 bel lt2) (trodAll_cons_mk (Below.trod laidOut (by kernel_rfl) (of_decide_eq_true (by kernel_rfl)) k3 bel lt3) trodAll_mk0)))), rfl, bel.frame _, fun h => by cases h⟩
theorem over : Rows.signHoldsRow.holds Tryd.pinned (OpenSpec.ofChange Rows.signHoldsSpec) :=
 OpenClaim.holds_of_wide 3 Tryd.f3 rfl rfl rfl rfl rfl rfl rfl ⟨rfl, rfl, rfl, rfl, rfl⟩ rfl rfl rfl rfl rfl (by kernel_rfl) Tryd.func3 (by kernel_rfl)
   (of_decide_eq_true (by kernel_rfl)) (by unfold Func.isWrapper; first | (rw [if_pos (by decide +kernel)]; kernel_rfl) | (rw [if_neg (by decide +kernel)]; exact ⟨rfl, rfl⟩))
   (fun os started H enc _ => lifted os started H enc)
theorem proved : Rows.SignHoldsCardSaid :=
 Claim7.holds_tied_plain_at .later [] [.data, .data] true (true, "16575425c220959fc89a22f448f0aea1773ee91526c3d575ff642565c5fdd8bc") false over (fun _ h => by cases h) (by kernel_rfl) (fun _ h => by cases h) signHolds_row_tie rfl ⟨rfl, rfl⟩ (by kernel_rfl) rfl
   (fun f fn hf hfn => by
     obtain rfl : f = 3 := Option.some.inj ((show Tryd.prog.funcNamed "synod/synodlaw07.SignHolds" = some 3 by kernel_rfl).symm.trans hf) |>.symm
     obtain rfl : fn = Tryd.f3 := (Option.some.inj (Tryd.func3.symm.trans hfn)).symm
     exact ⟨by kernel_rfl, fun j t ht => by
       rw [Tryd.params3] at ht
       have hm : t ∈ [22, 22, 3, 5] := by simpa using Array.mem_of_getElem? ht
       have hall : ([22, 22, 3, 5].all fun u => !Tryd.prog.wantsStandIn u) = true := by kernel_rfl
       exact (show Tryd.prog.wantsStandIn t = false by simpa using List.all_eq_true.1 hall t hm)⟩)
   (by kernel_rfl)
#print axioms proved
end Go.Proofs.YtllmbkmghmmhfaaDoor.SignHoldsDone
