/- Proved: 'synodlaw07.SignVerifies' returns true whatever bytes come in, and they read behind the call as before; the tables' words tied to the program's text. -/
import Derived.Test.YtllmbkmghmmhfaaGreatDoorTie
import Derived.Test.YtllmbkmghmmhfaaGreatDoorCards
import Derived.Test.YtllmbkmghmmhfaaGreatDoorXvf
set_option maxRecDepth 100000
set_option maxHeartbeats 4000000
namespace Go.Proofs.YtllmbkmghmmhfaaGreatDoor.SignVerifiesDone
open Go Go.Eng Go.Byt Go.ChangeShapes Go.WideShapes Go.ChangeAt Go.RowKit Go.Proofs.YtllmbkmghmmhfaaGreatDoor.W Go.Proofs.YtllmbkmghmmhfaaGreatDoor.SignDone
set_option linter.unusedVariables false
theorem cells5 : Tryz.prog.cellsOf 5 = 1 := by kernel_rfl
theorem bytes5 : Tryz.prog.bytesOf 5 = 1 := by kernel_rfl
theorem lifted (os : Os) (started : os.Started) (H : Type) (enc : TypeId × Value → H) :
   ReturnsInHanded {} Tryz.checked os 5 .any (fun w args => (Rows.signVerifiesSpec.pre enc Tryz.prog Tryz.f5 Rows.signVerifiesRow.domain false w args ∧ laidMetH Tryz.prog Rows.signVerifiesRow.laid w) ∧ sizedMet enc Tryz.prog Tryz.f5 (OpenSpec.ofChange Rows.signVerifiesSpec) false w args)
     (Rows.signVerifiesSpec.post enc Tryz.prog Tryz.f5 false true false false) := by
 refine returnsInHanded_of_change_and (C := Tryz.checked) (X := fun w _ => laidMetH Tryz.prog Rows.signVerifiesRow.laid w) (fun _ _ _ hh h => h.of_heap hh) own started (by kernel_rfl) Tryz.func5
   (ChangeSpec.witness_shaped (enc := enc) (C := Tryz.checked) (os := os) (X := fun w _ => laidMetH Tryz.prog Rows.signVerifiesRow.laid w) false (World.laidAll Tryz.prog os Rows.signVerifiesRow.laid) #[.slice none 0 0, .slice none 0 0, .slice none 0 0] 8 (World.laidAll_os _ _ _)
     (World.shaped_of_ZipB (by kernel_rfl) (by kernel_rfl)) (by kernel_rfl) (by kernel_rfl) (by kernel_rfl)
     (by rw [MakeChecks.laidMetH_plain _ _ _ (by kernel_rfl)]; exact laidMet_laidAll _ (by kernel_rfl) (by kernel_rfl))) ?_
 intro W base args ds gs before hval0 hW hcnd hsz hL _
 have hval : ∀ (j : Nat) t v, Tryz.f5.params[j]? = some t → args[j]? = some v → Value.okWide Tryz.prog W .any base t v := hval0
 have hW' := hW
 obtain ⟨p, q, hA0, hV, rfl, hfz, hnd⟩ := hW
 have hA : DataW.TrodAll enc Tryz.prog W 0 (fun _ => true) true Tryz.f5.params.toList args.toList ds p := hA0
 have hsz1 : (DataW.weightsEach Tryz.prog (Tryz.f5.params.toList ++ Rows.signVerifiesSpec.plain.varTypes Tryz.prog) (ds ++ gs)).all (· ≤ reachBytes) = true := hsz
 rw [Tryz.params5] at hA hval hsz1
 obtain ⟨v0, vs0, d0, ds0, p0, q0, hargs, rfl, rfl, h0, r0⟩ := trodAll_cons hA
 obtain ⟨v1, vs1, d1, ds1, p1, q1, rfl, rfl, rfl, h1, r1⟩ := trodAll_cons r0
 obtain ⟨v2, vs2, d2, ds2, p2, q2, rfl, rfl, rfl, h2, r2⟩ := trodAll_cons r1
 obtain ⟨rfl, rfl, rfl⟩ := trodAll_nil r2
 obtain rfl : args = #[v0, v1, v2] := by cases args; simp_all
 obtain ⟨rfl, rfl⟩ := trodVars_none hV
 have k0 := h0
 have lt0 := g8 h0
 have s0 : Small Tryz.prog 22 d0 := iO hsz1 (j := 0) rfl rfl
 have k1 := h1
 have lt1 := g8 h1
 have s1 : Small Tryz.prog 22 d1 := iO hsz1 (j := 1) rfl rfl
 have k2 := h2
 have lt2 := g8 h2
 have s2 : Small Tryz.prog 22 d2 := iO hsz1 (j := 2) rfl rfl
 obtain ⟨a0, m0, c0, rfl⟩ := okWide_slice Tryz.underlying22 (hval 0 22 v0 rfl rfl)
 obtain ⟨f0, g0⟩ := h0
 obtain ⟨u0, x0, e0, b0, l0⟩ := fx (t := 22) (e := 5) Tryz.underlying22 Tryz.underlying5 cells5 bytes5 g0 s0
 simp [Value.cells] at e0
 subst e0
 obtain ⟨a1, m1, c1, rfl⟩ := okWide_slice Tryz.underlying22 (hval 1 22 v1 rfl rfl)
 obtain ⟨f1, g1⟩ := h1
 obtain ⟨u1, x1, e1, b1, l1⟩ := fx (t := 22) (e := 5) Tryz.underlying22 Tryz.underlying5 cells5 bytes5 g1 s1
 simp [Value.cells] at e1
 subst e1
 obtain ⟨a2, m2, c2, rfl⟩ := okWide_slice Tryz.underlying22 (hval 2 22 v2 rfl rfl)
 obtain ⟨f2, g2⟩ := h2
 obtain ⟨u2, x2, e2, b2, l2⟩ := fx (t := 22) (e := 5) Tryz.underlying22 Tryz.underlying5 cells5 bytes5 g2 s2
 simp [Value.cells] at e2
 subst e2
 have hR := iP _ _ _ x0 x1 x2 W (tabs_of hL) b0 b1 b2 l0 l1 l2
 clear hA0 hval0
 refine (hR.2 : Calls Tryz.prog 5 _ W _).mono fun e W' ⟨x, he, hx, hk⟩ => ?_
 subst hx
 subst he
 have bel := hk.below0
 exact ⟨_, rfl, _, _, _, [], _, [], hW', trodAll_mk1 (shut_bool Tryz.underlying4 _), (trodAll_cons_mk (Below.trod laidOut (by kernel_rfl) (of_decide_eq_true (by kernel_rfl)) k0 bel lt0) (trodAll_cons_mk (Below.trod laidOut (by kernel_rfl) (of_decide_eq_true (by kernel_rfl)) k1 bel lt1) (trodAll_cons_mk (Below.trod laidOut (by kernel_rfl) (of_decide_eq_true (by kernel_rfl)) k2 bel lt2) trodAll_mk0))), rfl, bel.frame _, fun h => by cases h⟩
theorem over : Rows.signVerifiesRow.holds Tryz.pinned (OpenSpec.ofChange Rows.signVerifiesSpec) :=
 OpenClaim.holds_of_wide 5 Tryz.f5 rfl rfl rfl rfl rfl rfl rfl ⟨rfl, rfl, rfl, rfl, rfl⟩ rfl rfl rfl rfl rfl (by kernel_rfl) Tryz.func5 (by kernel_rfl)
   (of_decide_eq_true (by kernel_rfl)) (by unfold Func.isWrapper; first | (rw [if_pos (by decide +kernel)]; kernel_rfl) | (rw [if_neg (by decide +kernel)]; exact ⟨rfl, rfl⟩))
   (fun os started H enc _ => lifted os started H enc)
theorem proved : Rows.SignVerifiesCardSaid :=
 Claim7.holds_tied_plain_at .later [] [.data, .data] true (true, "4cab7fcdfb5578990cfb75c9bac7695543fbe79ba4c326b7c8dc1d4e6171dc2c") false over (fun _ h => by cases h) (by kernel_rfl) (fun _ h => by cases h) signVerifies_row_tie rfl ⟨rfl, rfl⟩ (by kernel_rfl) rfl
   (fun f fn hf hfn => by
     obtain rfl : f = 5 := Option.some.inj ((show Tryz.prog.funcNamed "synod/synodlaw07.SignVerifies" = some 5 by kernel_rfl).symm.trans hf) |>.symm
     obtain rfl : fn = Tryz.f5 := (Option.some.inj (Tryz.func5.symm.trans hfn)).symm
     exact ⟨by kernel_rfl, fun j t ht => by
       rw [Tryz.params5] at ht
       have hm : t ∈ [22, 22, 22] := by simpa using Array.mem_of_getElem? ht
       have hall : ([22, 22, 22].all fun u => !Tryz.prog.wantsStandIn u) = true := by kernel_rfl
       exact (show Tryz.prog.wantsStandIn t = false by simpa using List.all_eq_true.1 hall t hm)⟩)
   (by kernel_rfl)
#print axioms proved
end Go.Proofs.YtllmbkmghmmhfaaGreatDoor.SignVerifiesDone
