/- Contracts and laws, part 5 of 5: what each function of the program and of the reference computes, shown once. -/
import Derived.LaidMore
import Derived.Lay
import Derived.OpenShut
import Derived.ProofKit
import Derived.SevenTiedAt
import Derived.Stop.Joined
import Derived.Test.YtllmbkmghmmhfaaDoorRows
import Derived.Test.YtllmbkmghmmhfaaDoorQhd
set_option maxRecDepth 100000
set_option maxHeartbeats 4000000
set_option linter.unusedVariables false
set_option linter.unusedSimpArgs false
namespace Go.Proofs.YtllmbkmghmmhfaaDoor.W
open Go Go.Eng Go.Byt
open Go.Fld Go.Ed
theorem iy (p : Nat → Int) (a : Pt) (v : Value) (xs : List UInt8) (hp : PtR p a) (ha : OnP a) (w : World) (hv : RdB w v xs) (hx : xs.length = 32) : Rets Tryd.prog 17 [.agg (iv .u64 20 p).toArray, v] w (fun r w' => ∃ q, r = .tuple #[.agg (iv .u64 20 q).toArray, .int .i64 0] ∧ PtR q (pmul (leI xs).toNat a) ∧ Keep [] w w') := by
 have hB : Keep [] w w := Keep.refl _ _
 refine a7 Tryd.func17 rfl (by decide) Tryd.ntmps17 rfl (fun fin _ hfin => aS (aR (a9 (bc (cs := [.int .u64 (p 0), .int .u64 (p 1), .int .u64 (p 2), .int .u64 (p 3), .int .u64 (p 4), .int .u64 (p 5), .int .u64 (p 6), .int .u64 (p 7), .int .u64 (p 8), .int .u64 (p 9), .int .u64 (p 10), .int .u64 (p 11), .int .u64 (p 12), .int .u64 (p 13), .int .u64 (p 14), .int .u64 (p 15), .int .u64 (p 16), .int .u64 (p 17), .int .u64 (p 18), .int .u64 (p 19)]) rfl rfl) rfl ?_)))
 rintro _ w1 ⟨b1, rfl, eb1, hb1, k1, z1⟩
 replace hB := hB.trans k1
 clear eb1 z1
 refine a9 (ab bA) rfl ?_
 rintro _ w2 ⟨b2, rfl, eb2, hb2, k2, z2⟩
 have ge_b2 : w.heap.size ≤ b2 := by have := hB.size; omega
 obtain ⟨hB, hb1⟩ := bT k2 hB hb1
 clear eb2 z2
 refine oga rfl rfl (aT (j7 64 (aS (aS (aR (ogm rfl rfl (aU (bp aB rfl (by first | assumption | exact Own.rd ‹_› | exact Rd.pK ‹_› hB | exact Own.rd (Own.pK ‹_› hB))) rfl (aU (dU rfl rfl) rfl (aT (cU rfl (by omega) (a8 (aS (aR (a9 (aV (vs := []) rfl (kp _)) rfl ?_))))))))))))))
 rintro _ w3 ⟨hh1, rfl, E1, k3⟩
 obtain ⟨hB, hb1, hb2⟩ := cX k3 hB hb1 hb2
 refine a9 (ab aj) rfl ?_
 rintro _ w4 ⟨b3, rfl, eb3, hb3, k4, z3⟩
 have ge_b3 : w.heap.size ≤ b3 := by have := hB.size; omega
 have ne_b1_b3 : b1 ≠ b3 := by have := hb1.lt; omega
 have ne_b2_b3 : b2 ≠ b3 := by have := hb2.lt; omega
 obtain ⟨hB, hb1, hb2⟩ := cX k4 hB hb1 hb2
 clear eb3 z3
 refine a6 (ak aj rfl rfl rfl ad hb3 rfl) ?_
 rintro _ w5 ⟨hb4, k5, z4⟩
 replace hb1 := hb1.keep k5 (nm ne_b1_b3)
 replace hb2 := hb2.keep k5 (nm ne_b2_b3)
 replace hB := hB.new k5 (nw ge_b3)
 clear z4
 replace hb4 := cv (g := hh1) hb4
 refine aT (aS (aR (a9 (ab ty77) rfl ?_)))
 rintro _ w6 ⟨b4, rfl, eb4, hb5, k6, z5⟩
 have ge_b4 : w.heap.size ≤ b4 := by have := hB.size; omega
 have ne_b1_b4 : b1 ≠ b4 := by have := hb1.lt; omega
 have ne_b2_b4 : b2 ≠ b4 := by have := hb2.lt; omega
 have ne_b3_b4 : b3 ≠ b4 := by have := hb4.lt; omega
 obtain ⟨hB, hb1, hb2, hb4⟩ := cy k6 hB hb1 hb2 hb4
 clear eb4 z5
 replace hb5 : Bk w6 b4 77 (iv .u64 320 (fun _ => 0)) := by rw [iv, cG]; exact hb5
 refine aT (aS (aR (a9 (aV (vs := []) rfl (PzeroR _)) rfl ?_)))
 rintro _ w7 ⟨hh2, rfl, E2, k7⟩
 obtain ⟨hB, hb1, hb2, hb4, hb5⟩ := dg k7 hB hb1 hb2 hb4 hb5
 refine aU (aa Tryd.underlying77 bA rfl rfl (by decide)) rfl (a6 (oy (g := hh2) bA rfl rfl hb5 (by first | omega | (unfold In at *; omega))) ?_)
 rintro _ w8 ⟨hb6, k8, z6⟩
 replace hb1 := hb1.keep k8 (nm ne_b1_b4)
 replace hb2 := hb2.keep k8 (nm ne_b2_b4)
 replace hb4 := hb4.keep k8 (nm ne_b3_b4)
 replace hB := hB.new k8 (nw ge_b4)
 clear z6
 replace hb6 : Bk w8 b4 _ (iv .u64 320 (updR (fun _ => 0) (0 + 0) 20 hh2)) := hb6
 refine aT (aS (aS (aR (oga rfl rfl (aT (a5 (bi (Γ := Int × (Nat → Int)) (fun ⟨i, U⟩ => [(1, v), (2, .pointer (some ⟨b1, 0, none⟩)), (4, .pointer (some ⟨b2, 0, none⟩)), (6, .pointer (some ⟨b3, 0, none⟩)), (7, .pointer (some ⟨b4, 0, none⟩)), (8, .int .i64 i)]) (fun ⟨i, U⟩ W => 1 ≤ i ∧ i ≤ 16 ∧ (∀ j, j < i.toNat → PtR (atN U (0 + j * 20)) (pmul j a)) ∧ Bk W b1 45 [.int .u64 (p 0), .int .u64 (p 1), .int .u64 (p 2), .int .u64 (p 3), .int .u64 (p 4), .int .u64 (p 5), .int .u64 (p 6), .int .u64 (p 7), .int .u64 (p 8), .int .u64 (p 9), .int .u64 (p 10), .int .u64 (p 11), .int .u64 (p 12), .int .u64 (p 13), .int .u64 (p 14), .int .u64 (p 15), .int .u64 (p 16), .int .u64 (p 17), .int .u64 (p 18), .int .u64 (p 19)] ∧ Bk W b2 45 [.int .u64 0, .int .u64 0, .int .u64 0, .int .u64 0, .int .u64 0, .int .u64 0, .int .u64 0, .int .u64 0, .int .u64 0, .int .u64 0, .int .u64 0, .int .u64 0, .int .u64 0, .int .u64 0, .int .u64 0, .int .u64 0, .int .u64 0, .int .u64 0, .int .u64 0, .int .u64 0] ∧ Bk W b3 43 [.int .u64 (hh1 0), .int .u64 (hh1 1), .int .u64 (hh1 2), .int .u64 (hh1 3), .int .u64 (hh1 4)] ∧ Bk W b4 77 (iv .u64 320 U) ∧ Keep [] w W) (fun ⟨i, U⟩ => (16 - i).toNat) ⟨1, (updR (fun _ => 0) (0 + 0) 20 hh2)⟩ ⟨rfl, rfl, rfl, rfl, rfl, rfl, trivial⟩ (⟨by decide, by decide, mG E2, hb1, hb2, hb4, hb6, hB⟩) ?_)))))))
 rintro ⟨i, U⟩ w9 ⟨hi0, hi1, hwin, hbx2, hbx4, hbx6, hbx7, hB⟩
 refine aW [(1, v), (2, .pointer (some ⟨b1, 0, none⟩)), (4, .pointer (some ⟨b2, 0, none⟩)), (6, .pointer (some ⟨b3, 0, none⟩)), (7, .pointer (some ⟨b4, 0, none⟩)), (8, .int .i64 i)] ⟨rfl, rfl, rfl, rfl, rfl, rfl, trivial⟩ (aS (aS (aR (ogm rfl rfl (aU (bW rfl rfl) rfl (aT (bo rfl (fun hc1 => ?_) (fun hc1 => ?_))))))))
 ·
  refine a8 (aS (a5 (bz 9 [0, 1, 2, 3, 4, 5, 7, 6, 8] [6, 8] [] mixed [(8, _), (7, _), (2, _), (6, _), (1, _), (4, _), (18, _), (19, _)] ⟨rfl, rfl, rfl, rfl, rfl, rfl, rfl, rfl, trivial⟩ (by decide +kernel) rfl (fun w10 k9 => ?_))))
  obtain ⟨hB, hbx2, hbx4, hbx6, hbx7⟩ := dg k9 hB hbx2 hbx4 hbx6 hbx7
  refine cQ 8 rfl rfl rfl rfl rfl (cQ 8 rfl rfl rfl rfl rfl (ao 23 rfl rfl rfl rfl (fun W' kk => eG rfl rfl (by omega)) (ct 7 24 rfl rfl rfl rfl rfl (fun W' kk => aa Tryd.underlying77 bA rfl rfl (by constructor <;> omega)) (ao 25 rfl rfl rfl rfl (fun W' kk => oQ cq bA rfl (Bk.pK hbx7 kk) (by first | omega | (unfold In at *; omega))) (ao 2 rfl rfl rfl rfl (fun W' kk => aX (cs' := [_, _, _, _, _, _, _, _, _, _, _, _, _, _, _, _, _, _, _, _]) cq bA rfl (Bk.pK hbx2 kk) rfl rfl) (ao 6 rfl rfl rfl rfl (fun W' kk => aX (cs' := [_, _, _, _, _]) bG aj rfl (Bk.pK hbx6 kk) rfl rfl) (bx [(27, _)] rfl rfl ⟨rfl, trivial⟩ rfl (aV (vs := [_]) rfl (fullR hp _)) ?_)))))))
  rintro _ w11 ⟨hh3, rfl, E3, k10⟩
  refine ⟨k10, ?_⟩
  obtain ⟨hB, hbx2, hbx4, hbx6, hbx7⟩ := dg k10 hB hbx2 hbx4 hbx6 hbx7
  refine bx [(26, _), (28, _), (29, _)] rfl rfl ⟨rfl, rfl, rfl, trivial⟩ rfl (aV (vs := [_, _, _]) rfl (plusR (hwin ((i - 1)).toNat (by omega)) E3 (cV ha _) ha E1 _)) ?_
  rintro _ w12 ⟨hh4, rfl, E4, k11⟩
  refine ⟨k11, ?_⟩
  obtain ⟨hB, hbx2, hbx4, hbx6, hbx7⟩ := dg k11 hB hbx2 hbx4 hbx6 hbx7
  refine cS (aU (aa Tryd.underlying77 bA rfl rfl (by constructor <;> omega)) rfl (a6 (oy (g := hh4) bA rfl rfl hbx7 (by first | omega | (unfold In at *; omega))) ?_))
  rintro _ w13 ⟨hb7, k12, z7⟩
  replace hbx2 := hbx2.keep k12 (nm ne_b1_b4)
  replace hbx4 := hbx4.keep k12 (nm ne_b2_b4)
  replace hbx6 := hbx6.keep k12 (nm ne_b3_b4)
  replace hB := hB.new k12 (nw ge_b4)
  clear z7
  replace hb7 : Bk w13 b4 _ (iv .u64 320 (updR U (0 + (i).toNat * 20) 20 hh4)) := hb7
  refine aT (bg (aR (ogm rfl rfl (aU (cI rfl rfl (by omega)) rfl (oga rfl rfl (aT (cA (Γ := Int × (Nat → Int)) ⟨i + 1, _⟩ ⟨rfl, rfl, rfl, rfl, rfl, rfl, trivial⟩ (by (try dsimp only); omega) (⟨by omega, by omega, nG hi0 hwin E4, hbx2, hbx4, hbx6, hb7, hB⟩))))))))
 ·
  refine bE rfl (aS (aR (a9 (aV (vs := []) rfl (PzeroR _)) rfl ?_)))
  rintro _ w14 ⟨hh5, rfl, E5, k13⟩
  obtain ⟨hB, hbx4, hbx6, hbx7⟩ := cy k13 hB hbx4 hbx6 hbx7
  refine a9 (ab bA) rfl ?_
  rintro _ w15 ⟨b5, rfl, eb5, hb8, k14, z8⟩
  have ge_b5 : w.heap.size ≤ b5 := by have := hB.size; omega
  have ne_b2_b5 : b2 ≠ b5 := by have := hbx4.lt; omega
  have ne_b3_b5 : b3 ≠ b5 := by have := hbx6.lt; omega
  have ne_b4_b5 : b4 ≠ b5 := by have := hbx7.lt; omega
  obtain ⟨hB, hbx4, hbx6, hbx7⟩ := cy k14 hB hbx4 hbx6 hbx7
  clear eb5 z8
  refine a6 (ak bA rfl rfl rfl ad hb8 rfl) ?_
  rintro _ w16 ⟨hb9, k15, z9⟩
  replace hbx4 := hbx4.keep k15 (nm ne_b2_b5)
  replace hbx6 := hbx6.keep k15 (nm ne_b3_b5)
  replace hbx7 := hbx7.keep k15 (nm ne_b4_b5)
  replace hB := hB.new k15 (nw ge_b5)
  clear z9
  replace hb9 := et (g := hh5) hb9
  refine aT (aS (aR (oga rfl rfl (aT (aS (j8 (nP (Γ := Int × (Nat → Int)) (fun ⟨j, o⟩ => [(1, v), (4, .pointer (some ⟨b2, 0, none⟩)), (6, .pointer (some ⟨b3, 0, none⟩)), (7, .pointer (some ⟨b4, 0, none⟩)), (9, .pointer (some ⟨b5, 0, none⟩)), (10, .int .i64 j)]) (fun ⟨j, o⟩ W => 0 ≤ j ∧ j ≤ 63 ∧ PtR o (pmul (topN xs (j + 1) * 16) a) ∧ Bk W b2 45 [.int .u64 0, .int .u64 0, .int .u64 0, .int .u64 0, .int .u64 0, .int .u64 0, .int .u64 0, .int .u64 0, .int .u64 0, .int .u64 0, .int .u64 0, .int .u64 0, .int .u64 0, .int .u64 0, .int .u64 0, .int .u64 0, .int .u64 0, .int .u64 0, .int .u64 0, .int .u64 0] ∧ Bk W b3 43 [.int .u64 (hh1 0), .int .u64 (hh1 1), .int .u64 (hh1 2), .int .u64 (hh1 3), .int .u64 (hh1 4)] ∧ Bk W b4 77 (iv .u64 320 U) ∧ Bk W b5 45 [.int .u64 (o 0), .int .u64 (o 1), .int .u64 (o 2), .int .u64 (o 3), .int .u64 (o 4), .int .u64 (o 5), .int .u64 (o 6), .int .u64 (o 7), .int .u64 (o 8), .int .u64 (o 9), .int .u64 (o 10), .int .u64 (o 11), .int .u64 (o 12), .int .u64 (o 13), .int .u64 (o 14), .int .u64 (o 15), .int .u64 (o 16), .int .u64 (o 17), .int .u64 (o 18), .int .u64 (o 19)] ∧ Keep [] w W) (fun ⟨j, o⟩ => (j + 1).toNat) ⟨63, hh5⟩ ⟨rfl, rfl, rfl, rfl, rfl, rfl, trivial⟩ (⟨by decide, by decide, (by show PtR _ (pmul (topN xs 64 * 16) a); rw [nQ hx]; exact E5), hbx4, hbx6, hbx7, hb9, hB⟩) (by show (63 + 1 : Int).toNat ≤ 64; decide) (fun γ W h => by have := h.1; show 0 < (γ.1 + 1).toNat; omega) ?_)))))))
  rintro mm ⟨j, o⟩ w17 ⟨hj0, hj1, hO, hbx4, hbx6, hbx7, hbx9, hB⟩ hmu again
  refine aW [(1, v), (4, .pointer (some ⟨b2, 0, none⟩)), (6, .pointer (some ⟨b3, 0, none⟩)), (7, .pointer (some ⟨b4, 0, none⟩)), (9, .pointer (some ⟨b5, 0, none⟩)), (10, .int .i64 j)] ⟨rfl, rfl, rfl, rfl, rfl, rfl, trivial⟩ (aS (bz 15 [0, 1, 2, 3, 4, 5, 6, 7, 8, 9, 10, 11, 12, 13, 14] [14] [] mixed [(9, _), (1, _), (10, _), (7, _), (6, _), (4, _)] ⟨rfl, rfl, rfl, rfl, rfl, rfl, trivial⟩ (by decide +kernel) rfl (fun w18 k16 => ?_)))
  obtain ⟨hB, hbx4, hbx6, hbx7, hbx9⟩ := dg k16 hB hbx4 hbx6 hbx7 hbx9
  refine ao 9 rfl rfl rfl rfl (fun W' kk => aX (cs' := [_, _, _, _, _, _, _, _, _, _, _, _, _, _, _, _, _, _, _, _]) cq bA rfl (Bk.pK hbx9 kk) rfl rfl) (cQ 1 rfl rfl rfl rfl rfl (cQ 10 rfl rfl rfl rfl rfl (ao 35 rfl rfl rfl rfl (fun W' kk => eg rfl rfl (by omega)) (ct 34 36 rfl rfl rfl rfl rfl (fun W' kk => dV aB cZ rfl (by first | exact Rd.pK ‹_› kk | exact Rd.pK (Own.rd ‹_›) kk | exact Rd.pK (Rd.pK ‹_› hB) kk | exact Rd.pK (Own.rd (Own.pK ‹_› hB)) kk) rfl (by omega)) (ao 37 rfl rfl rfl rfl (fun W' kk => d7 j4 rfl (by first | exact Rd.pK ‹_› kk | exact Rd.pK (Own.rd ‹_›) kk | exact Rd.pK (Rd.pK ‹_› hB) kk | exact Rd.pK (Own.rd (Own.pK ‹_› hB)) kk) (by omega)) (cQ 10 rfl rfl rfl rfl rfl (ao 39 rfl rfl rfl rfl (fun W' kk => e9 rfl rfl (by omega)) (ao 40 rfl rfl rfl rfl (fun W' kk => gN rfl rfl (by omega)) ?_))))))))
  refine ct 38 41 rfl rfl rfl rfl rfl (fun W' kk => fa rfl rfl (by constructor <;> (try simp only [IntKind.bits]) <;> omega)) (pw_gx (e' := nib xs j) (lo := 0) (hi := 15) [(42, _)] rfl rfl ⟨rfl, trivial⟩ rfl (fun W' kk => cY rfl rfl) (nib_eq hx hj0 hj1) (nib_in xs j) (fun z10 h1 r1 => ct 7 43 rfl rfl rfl rfl rfl (fun W' kk => aa Tryd.underlying77 bA rfl rfl (by have := r1; unfold In at this; omega)) (ao 44 rfl rfl rfl rfl (fun W' kk => oQ cq bA rfl (Bk.pK hbx7 kk) (by have := r1; unfold In at this; omega)) (ao 6 rfl rfl rfl rfl (fun W' kk => aX (cs' := [_, _, _, _, _]) bG aj rfl (Bk.pK hbx6 kk) rfl rfl) (bx [(33, _), (45, _), (46, _)] rfl rfl ⟨rfl, rfl, rfl, trivial⟩ rfl (aV (vs := [_, _, _]) rfl (plusR hO (hwin (z10).toNat (by have := r1; unfold In at this; omega)) (cV ha _) (cV ha _) E1 _)) ?_)))))
  rintro _ w19 ⟨hh6, rfl, E6, k17⟩
  refine ⟨k17, ?_⟩
  obtain ⟨hB, hbx4, hbx6, hbx7, hbx9⟩ := dg k17 hB hbx4 hbx6 hbx7 hbx9
  replace E6 : PtR hh6 (pmul (topN xs j) a) := by rw [← nl ha hj0, ← h1]; exact E6
  refine cS (a6 (ak bA rfl rfl rfl ad hbx9 rfl) ?_)
  rintro _ w20 ⟨hb10, k18, z11⟩
  replace hbx4 := hbx4.keep k18 (nm ne_b2_b5)
  replace hbx6 := hbx6.keep k18 (nm ne_b3_b5)
  replace hbx7 := hbx7.keep k18 (nm ne_b4_b5)
  replace hB := hB.new k18 (nw ge_b5)
  clear z11
  replace hb10 := et (g := hh6) hb10
  refine aT (aS (aS (aR (ogm rfl rfl (aU (gR rfl rfl) rfl (aT (bo rfl (fun hc2 => ?_) (fun hc2 => ?_))))))))
  ·
   refine lW rfl (aS (a8 (aS (aR (aU (aX (cs' := [_, _, _, _, _, _, _, _, _, _, _, _, _, _, _, _, _, _, _, _]) cq bA rfl hb10 rfl rfl) rfl (a6 (ak bA rfl rfl rfl (by simp only [List.forall_mem_cons]; refine ⟨rfl, rfl, rfl, rfl, rfl, rfl, rfl, rfl, rfl, rfl, rfl, rfl, rfl, rfl, rfl, rfl, rfl, rfl, rfl, rfl, fun v hv => by cases hv⟩) hbx4 rfl) ?_))))))
   rintro _ w21 ⟨hb11, k19, z12⟩
   replace hbx6 := hbx6.keep k19 (nm (Ne.symm ne_b2_b3))
   replace hbx7 := hbx7.keep k19 (nm (Ne.symm ne_b2_b4))
   replace hb10 := hb10.keep k19 (nm (Ne.symm ne_b2_b5))
   replace hB := hB.new k19 (nw ge_b2)
   clear z12
   replace hb11 := et (g := hh6) hb11
   refine oga rfl rfl (aT (cR hfin Tryd.results17 rfl (ae cq bA hb11 rfl) rfl ?_))
   exact ⟨hh6, rfl, (by have e : PtR hh6 (pmul (topN xs j) a) := E6; rw [hc2, mI] at e; exact e), hB⟩
  ·
   refine a8 (aS (aS (aR (ogm rfl rfl (aT (a5 (dQ 4 (aS (aR (aU (bW rfl rfl) rfl (aT (aS (bF rfl (by decide) (a8 (aS (a5 (aR (aU (aX (cs' := [_, _, _, _, _, _, _, _, _, _, _, _, _, _, _, _, _, _, _, _]) cq bA rfl hb10 rfl rfl) rfl (a9 (aV (vs := [_]) rfl (doubleR E6 (cV ha _) _)) rfl ?_)))))))))))))))))))
   rintro _ w22 ⟨hh7, rfl, E7, k20⟩
   obtain ⟨hB, hbx4, hbx6, hbx7, hb10⟩ := dg k20 hB hbx4 hbx6 hbx7 hb10
   replace E7 : PtR hh7 (pmul ((topN xs j) * 2) a) := by rw [← ee ha]; exact E7
   refine a6 (ak bA rfl rfl rfl ad hb10 rfl) ?_
   rintro _ w23 ⟨hb12, k21, z13⟩
   replace hbx4 := hbx4.keep k21 (nm ne_b2_b5)
   replace hbx6 := hbx6.keep k21 (nm ne_b3_b5)
   replace hbx7 := hbx7.keep k21 (nm ne_b4_b5)
   replace hB := hB.new k21 (nw ge_b5)
   clear z13
   replace hb12 := et (g := hh7) hb12
   refine aT (bg (aR (aU (aq (j := 1) (an rfl rfl) (by decide)) rfl (ogm rfl rfl (aT (bn (aS (aR (aU (bW rfl rfl) rfl (aT (aS (bF rfl (by decide) (a8 (aS (a5 (aR (aU (aX (cs' := [_, _, _, _, _, _, _, _, _, _, _, _, _, _, _, _, _, _, _, _]) cq bA rfl hb12 rfl rfl) rfl (a9 (aV (vs := [_]) rfl (doubleR E7 (cV ha _) _)) rfl ?_))))))))))))))))))
   rintro _ w24 ⟨hh8, rfl, E8, k22⟩
   obtain ⟨hB, hbx4, hbx6, hbx7, hb12⟩ := dg k22 hB hbx4 hbx6 hbx7 hb12
   replace E8 : PtR hh8 (pmul (((topN xs j) * 2) * 2) a) := by rw [← ee ha]; exact E8
   refine a6 (ak bA rfl rfl rfl ad hb12 rfl) ?_
   rintro _ w25 ⟨hb13, k23, z14⟩
   replace hbx4 := hbx4.keep k23 (nm ne_b2_b5)
   replace hbx6 := hbx6.keep k23 (nm ne_b3_b5)
   replace hbx7 := hbx7.keep k23 (nm ne_b4_b5)
   replace hB := hB.new k23 (nw ge_b5)
   clear z14
   replace hb13 := et (g := hh8) hb13
   refine aT (bg (aR (aU (aq (j := 2) (an rfl rfl) (by decide)) rfl (ogm rfl rfl (aT (bn (aS (aR (aU (bW rfl rfl) rfl (aT (aS (bF rfl (by decide) (a8 (aS (a5 (aR (aU (aX (cs' := [_, _, _, _, _, _, _, _, _, _, _, _, _, _, _, _, _, _, _, _]) cq bA rfl hb13 rfl rfl) rfl (a9 (aV (vs := [_]) rfl (doubleR E8 (cV ha _) _)) rfl ?_))))))))))))))))))
   rintro _ w26 ⟨hh9, rfl, E9, k24⟩
   obtain ⟨hB, hbx4, hbx6, hbx7, hb13⟩ := dg k24 hB hbx4 hbx6 hbx7 hb13
   replace E9 : PtR hh9 (pmul ((((topN xs j) * 2) * 2) * 2) a) := by rw [← ee ha]; exact E9
   refine a6 (ak bA rfl rfl rfl ad hb13 rfl) ?_
   rintro _ w27 ⟨hb14, k25, z15⟩
   replace hbx4 := hbx4.keep k25 (nm ne_b2_b5)
   replace hbx6 := hbx6.keep k25 (nm ne_b3_b5)
   replace hbx7 := hbx7.keep k25 (nm ne_b4_b5)
   replace hB := hB.new k25 (nw ge_b5)
   clear z15
   replace hb14 := et (g := hh9) hb14
   refine aT (bg (aR (aU (aq (j := 3) (an rfl rfl) (by decide)) rfl (ogm rfl rfl (aT (bn (aS (aR (aU (bW rfl rfl) rfl (aT (aS (bF rfl (by decide) (a8 (aS (a5 (aR (aU (aX (cs' := [_, _, _, _, _, _, _, _, _, _, _, _, _, _, _, _, _, _, _, _]) cq bA rfl hb14 rfl rfl) rfl (a9 (aV (vs := [_]) rfl (doubleR E9 (cV ha _) _)) rfl ?_))))))))))))))))))
   rintro _ w28 ⟨hh10, rfl, E10, k26⟩
   obtain ⟨hB, hbx4, hbx6, hbx7, hb14⟩ := dg k26 hB hbx4 hbx6 hbx7 hb14
   replace E10 : PtR hh10 (pmul (((((topN xs j) * 2) * 2) * 2) * 2) a) := by rw [← ee ha]; exact E10
   refine a6 (ak bA rfl rfl rfl ad hb14 rfl) ?_
   rintro _ w29 ⟨hb15, k27, z16⟩
   replace hbx4 := hbx4.keep k27 (nm ne_b2_b5)
   replace hbx6 := hbx6.keep k27 (nm ne_b3_b5)
   replace hbx7 := hbx7.keep k27 (nm ne_b4_b5)
   replace hB := hB.new k27 (nw ge_b5)
   clear z16
   replace hb15 := et (g := hh10) hb15
   refine aT (bg (aR (aU (aq (j := 4) (an rfl rfl) (by decide)) rfl (ogm rfl rfl (aT (bn (aS (aR (aU (bW rfl rfl) rfl (aT (aS (cU rfl (by decide) (bE rfl (aS (aR (ogm rfl rfl (aU (eG rfl rfl (by omega)) rfl (oga rfl rfl (aT (aS (lW rfl (aS (a8 (aW [(1, v), (4, .pointer (some ⟨b2, 0, none⟩)), (6, .pointer (some ⟨b3, 0, none⟩)), (7, .pointer (some ⟨b4, 0, none⟩)), (9, .pointer (some ⟨b5, 0, none⟩)), (10, .int .i64 (j - 1))] ⟨rfl, rfl, rfl, rfl, rfl, rfl, trivial⟩ ?_))))))))))))))))))))))))
   exact again ⟨j - 1, hh10⟩ _ (by show (j - 1 + 1).toNat ≤ _; have : (j + 1).toNat ≤ mm + 1 := hmu; omega) (⟨by omega, by omega, (by rw [show j - 1 + 1 = j by omega, show topN xs j * 16 = topN xs j * 2 * 2 * 2 * 2 by omega]; exact E10), hbx4, hbx6, hbx7, hb15, hB⟩)
end Go.Proofs.YtllmbkmghmmhfaaDoor.W
namespace Go.Proofs.YtllmbkmghmmhfaaDoor.W
open Go Go.Eng Go.Byt Go.Fld Go.Ed
def Rep (X Y Z T : Fp) (a : Pt) : Prop := Z ≠ 0 ∧ X = a.1 * Z ∧ Y = a.2 * Z ∧ T = a.1 * a.2 * Z
theorem nf {a b : Pt} {X1 Y1 Z1 T1 X2 Y2 Z2 T2 : Fp} (ha : OnP a) (hb : OnP b) (h1 : Rep X1 Y1 Z1 T1 a) (h2 : Rep X2 Y2 Z2 T2 b) :
   Rep (((X1 + Y1) * (X2 + Y2) - X1 * X2 - Y1 * Y2) * (Z1 * Z2 - T1 * T2 * d)) ((Z1 * Z2 + T1 * T2 * d) * (Y1 * Y2 + X1 * X2)) ((Z1 * Z2 - T1 * T2 * d) * (Z1 * Z2 + T1 * T2 * d)) (((X1 + Y1) * (X2 + Y2) - X1 * X2 - Y1 * Y2) * (Y1 * Y2 + X1 * X2)) (padd a b) := by
 obtain ⟨n1, rfl, rfl, rfl⟩ := h1
 obtain ⟨n2, rfl, rfl, rfl⟩ := h2
 have f1 := o0 ha hb
 have f2 := oZ ha hb
 obtain ⟨x1, y1⟩ := a
 obtain ⟨x2, y2⟩ := b
 simp only at f1 f2 ⊢
 have hF : Z1 * Z2 - x1 * y1 * Z1 * (x2 * y2 * Z2) * d = (Z1 * Z2) * (1 - d * x1 * x2 * y1 * y2) := by clear f1 f2; generalize d = e; grind -lia -linarith
 have hG : Z1 * Z2 + x1 * y1 * Z1 * (x2 * y2 * Z2) * d = (Z1 * Z2) * (1 + d * x1 * x2 * y1 * y2) := by clear f1 f2; generalize d = e; grind -lia -linarith
 have hE : (x1 * Z1 + y1 * Z1) * (x2 * Z2 + y2 * Z2) - x1 * Z1 * (x2 * Z2) - y1 * Z1 * (y2 * Z2) = (Z1 * Z2) * (x1 * y2 + y1 * x2) := by clear f1 f2; grind -lia -linarith
 have hH : y1 * Z1 * (y2 * Z2) + x1 * Z1 * (x2 * Z2) = (Z1 * Z2) * (y1 * y2 + x1 * x2) := by clear f1 f2; grind -lia -linarith
 obtain ⟨c1, c2, c3⟩ := nh (cE f1) (cE f2) hE hG hF hH rfl rfl rfl rfl rfl rfl
 refine ⟨?_, c1, c2, c3⟩
 rw [hF, hG]
 exact ca (ca (ca n1 n2) f2) (ca (ca n1 n2) f1)
end Go.Proofs.YtllmbkmghmmhfaaDoor.W
namespace Go.Proofs.YtllmbkmghmmhfaaDoor.W
open Go Go.Eng Go.Byt
open Go.Fld Go.Ed
attribute [local irreducible] encB
end Go.Proofs.YtllmbkmghmmhfaaDoor.W
namespace Go.Proofs.YtllmbkmghmmhfaaDoor.W
open Go Go.Eng Go.Byt
open Go.Fld Go.Ed
attribute [local irreducible] encB
theorem ov (y : Fp) : decU y = y * y - 1 := by unfold decU; rw [oW]
theorem lH (y : Fp) : decV y = d * (y * y) + 1 := by unfold decV; rw [oW]
end Go.Proofs.YtllmbkmghmmhfaaDoor.W
namespace Go.Proofs.YtllmbkmghmmhfaaDoor.W
open Go Go.Eng Go.Byt
open Go.Fld Go.Ed
def HH (xs : List UInt8) : List UInt8 := Go.Sha.sum Go.Sha.dW Go.Sha.Kl Go.Sha.Hl xs
theorem eY (xs : List UInt8) : (HH xs).length = 64 := by unfold HH Go.Sha.sum Go.Sha.out8; simp only [List.flatMap_cons, List.flatMap_nil, List.length_append, dc, List.length_nil]
def hashB (xs : List UInt8) : List UInt8 := leB (leI (HH xs) % 7237005577332262213973186563042994240857116359379907606001950938285454250989) 32
theorem en (xs : List UInt8) : (hashB xs).length = 32 := dM _ _
def gB (n : List UInt8) : List UInt8 := encB (pmul (leI n).toNat basePt).1 (pmul (leI n).toNat basePt).2
theorem di (n : List UInt8) : (gB n).length = 32 := by unfold gB encB; rw [List.length_set, av]
attribute [irreducible] gB HH
def skB (seed : List UInt8) : List UInt8 := clampB ((HH seed).take 32)
def pxB (seed : List UInt8) : List UInt8 := (HH seed).drop 32
def pkB (seed : List UInt8) : List UInt8 := gB (skB seed)
theorem lK (xs : List UInt8) : (clampB xs).length = xs.length := by unfold clampB; rw [List.length_set, List.length_set]
theorem j9 (xs : List UInt8) : ((HH xs).take 32).length = 32 := by rw [List.length_take, eY]; rfl
theorem lY (xs : List UInt8) : (skB xs).length = 32 := by unfold skB; rw [lK, j9]
theorem l6 (xs : List UInt8) : (pxB xs).length = 32 := by unfold pxB; rw [List.length_drop, eY]
theorem gW (xs : List UInt8) : (pkB xs).length = 32 := di _
def rB (seed text : List UInt8) : List UInt8 := hashB (pxB seed ++ text)
def sgS (seed text : List UInt8) : List UInt8 := leB ((leI (rB seed text) + leI (hashB (gB (rB seed text) ++ pkB seed ++ text)) * leI (skB seed)) % 7237005577332262213973186563042994240857116359379907606001950938285454250989) 32
def sgB (seed text : List UInt8) : List UInt8 := gB (rB seed text) ++ sgS seed text
theorem bj (seed text : List UInt8) : (sgB seed text).length = 64 := by unfold sgB sgS; rw [List.length_append, di, dM]
def dP (xs : List UInt8) : Pt := (decX xs, decY xs)
def verP (pk tx sg : List UInt8) : Pt := padd (dP (sg.take 32)) (pmul (leI (hashB (sg.take 32 ++ pk ++ tx))).toNat (dP pk))
def verE (pk tx sg : List UInt8) : Int := if pk.length ≠ 32 ∨ sg.length ≠ 64 then 1 else if decE pk ≠ 0 then 30 else if decE (sg.take 32) ≠ 0 ∨ ¬ leI (sg.drop 32) < 7237005577332262213973186563042994240857116359379907606001950938285454250989 then 31 else if gB (sg.drop 32) = encB (verP pk tx sg).1 (verP pk tx sg).2 then 0 else 31
theorem hN {w : World} {lo : Nat} {h : Value} {xs : List UInt8} (o : OwnB w lo h (HH xs)) : RdB w (cut h 32 64 1) (pxB xs) := by
 have := (show RdB w h (HH xs) from o.rd).cutB (l := 32) (hi := 64) (by decide) (by rw [eY]; decide)
 rwa [List.take_of_length_le (by rw [List.length_drop, eY]; decide)] at this
theorem hh_take {w : World} {lo : Nat} {h : Value} {xs : List UInt8} (o : OwnB w lo h (HH xs)) : RdB w (cut h 0 32 1) ((HH xs).take 32) := by
 have := (show RdB w h (HH xs) from o.rd).cutB (l := 0) (hi := 32) (by decide) (by rw [eY]; decide)
 rwa [List.drop_zero] at this
theorem hh_cap {w : World} {lo : Nat} {h : Value} {xs : List UInt8} (o : OwnB w lo h (HH xs)) : 64 ≤ vcap h := by have := o.rd.vcap.1; rwa [eY] at this
theorem kI (v : Value) (xs : List UInt8) (w : World) (hT : Tabs w) (hv : RdB w v xs) (hx : xs.length ≤ 140737488354000) : Rets Tryd.prog 20 [v] w (fun r w' => OwnB w' w.heap.size r (HH xs) ∧ Keep [] w w') := by unfold HH; exact ka v xs w hT hv hx
theorem jm (v : Value) (ls : List (List UInt8)) (lo : Nat) (w : World) (h : SlL w lo 22 v ls) (hsum : ls.flatten.length ≤ 140737488355328) : Rets Tryd.prog 23 [v] w (fun u w' => OwnB w' w.heap.size u ls.flatten ∧ Keep [] w w') := by
  obtain ⟨us, h1, h2, h3⟩ := h
  replace h3 := h3.rd
  rw [← h1] at h3
  exact lJ v us ls w h3 h2 hsum
theorem gJ (v : Value) (ls : List (List UInt8)) (lo : Nat) (w : World) (hT : Tabs w) (hl : SlL w lo 22 v ls) (hx : ls.flatten.length ≤ 140737488354000) : Rets Tryd.prog 11 [v] w (fun r w' => OwnB w' w.heap.size r (hashB ls.flatten) ∧ Keep [] w w') := by
 have hB : Keep [] w w := Keep.refl _ _
 refine a7 Tryd.func11 rfl (by decide) Tryd.ntmps11 rfl (fun fin _ hfin => aS (aR (oga rfl rfl (aT (aS (aR (ogm rfl rfl (a9 (aV (vs := [_]) rfl (jm _ ls _ _ hl (by omega))) rfl ?_))))))))
 rintro v1 w1 ⟨o1, k1⟩
 replace hl := hl.pK k1
 replace hB := hB.trans k1
 refine a9 (aV (vs := [_]) rfl (kI _ _ _ (hT.pK hB) o1.rd hx)) rfl ?_
 rintro v2 w2 ⟨o2, k2⟩
 replace hl := hl.pK k2
 replace hB := hB.trans k2
 refine a9 (aV (vs := [_]) rfl (jb _ _ _ o2.rd (by rw [eY]; decide))) rfl ?_
 rintro _ w3 ⟨v3, rfl, o3, k3⟩
 have gl_o3 := hB.size
 replace hl := hl.pK k3
 replace hB := hB.trans k3
 refine ogm rfl rfl (aU (ar (vs := [_, _]) rfl rfl) rfl (aU (ar (vs := [_, _]) rfl rfl) rfl (oga rfl rfl (oga rfl rfl (aT (aW [(3, _)] ⟨rfl, trivial⟩ (aS (aR (ogm rfl rfl (oga rfl rfl (aT (bD hfin Tryd.results11 rfl ?_))))))))))))
 exact ⟨o3.lo gl_o3, hB⟩
theorem fD (v : Value) (xs : List UInt8) (w : World) (hv : RdB w v xs) (hx : xs.length = 32) : Rets Tryd.prog 12 [v] w (fun r w' => ∃ q, r = .agg (iv .u64 20 q).toArray ∧ PtR q (pmul (leI xs).toNat basePt) ∧ Keep [] w w') := by
 have hB : Keep [] w w := Keep.refl _ _
 refine a7 Tryd.func12 rfl (by decide) Tryd.ntmps12 rfl (fun fin _ hfin => aS (aR (a9 (ab bA) rfl ?_)))
 rintro _ w1 ⟨b1, rfl, eb1, hb1, k1, z1⟩
 have ge_b1 : w.heap.size ≤ b1 := by have := hB.size; omega
 replace hB := hB.trans k1
 clear eb1 z1
 replace hb1 : Bk w1 b1 45 (iv .u64 20 (fun _ => 0)) := by rw [iv, cG]; exact hb1
 refine aT (aS (aR (a9 (aV (vs := []) rfl (nE _)) rfl ?_)))
 rintro _ w2 ⟨hh1, rfl, E1, k2⟩
 obtain ⟨hB, hb1⟩ := bT k2 hB hb1
 refine ogm rfl rfl (a9 (aV (vs := [_, _]) rfl (iy _ basePt _ xs E1 bt _ (hv.pK hB) hx)) rfl ?_)
 rintro _ w3 ⟨hh2, rfl, E2, k3⟩
 obtain ⟨hB, hb1⟩ := bT k3 hB hb1
 refine ogm rfl rfl (aU (ar (vs := [_, _]) rfl rfl) rfl (aU (ar (vs := [_, _]) rfl rfl) rfl (a9 (ab bA) rfl ?_)))
 rintro _ w4 ⟨b2, rfl, eb2, hb2, k4, z2⟩
 have ge_b2 : w.heap.size ≤ b2 := by have := hB.size; omega
 have ne_b1_b2 : b1 ≠ b2 := by have := hb1.lt; omega
 obtain ⟨hB, hb1⟩ := bT k4 hB hb1
 clear eb2 z2
 replace hb2 : Bk w4 b2 45 (iv .u64 20 (fun _ => 0)) := by rw [iv, cG]; exact hb2
 refine a6 (dv (vs := iv .u64 20 hh2) bA rfl rfl rfl ad hb2 rfl) ?_
 rintro _ w5 ⟨hb3, k5, z3⟩
 replace hb1 := hb1.keep k5 (nm ne_b1_b2)
 replace hB := hB.new k5 (nw ge_b2)
 clear z3
 refine oga rfl rfl (aT (aS (aR (aU (aX (cs' := iv .u64 20 hh2) cq bA rfl hb3 rfl rfl) rfl (a6 (dv (vs := iv .u64 20 hh2) bA rfl rfl rfl ad hb1 rfl) ?_)))))
 rintro _ w6 ⟨hb4, k6, z4⟩
 replace hB := hB.new k6 (nw ge_b1)
 clear z4
 refine aT (aW [(2, _)] ⟨rfl, trivial⟩ (bP hfin Tryd.results12 rfl (ae cq bA hb4 rfl)  ?_))
 exact ⟨_, rfl, E2, hB⟩
theorem jk {q : Nat → Int} {xs : List UInt8} (h : PtR q (pmul (leI xs).toNat basePt)) (w : World) : Rets Tryd.prog 13 [.agg (iv .u64 20 q).toArray] w (fun r w' => OwnB w' w.heap.size r (gB xs) ∧ Keep [] w w') := by unfold gB; exact PencodeR h w
theorem ii (v : Value) (xs : List UInt8) (w : World) (hv : RdB w v xs) (hx : xs.length ≠ 32) : Rets Tryd.prog 10 [v] w (fun r w' => r = .tuple #[.agg [.slice none 0 0, .slice none 0 0, .slice none 0 0].toArray, .int .i64 1] ∧ Keep [] w w') := by
 have hB : Keep [] w w := Keep.refl _ _
 refine a7 Tryd.func10 rfl (by decide) Tryd.ntmps10 rfl (fun fin _ hfin => aS (aR (a9 (ab er) rfl ?_)))
 rintro _ w1 ⟨b1, rfl, eb1, hb1, k1, z1⟩
 have ge_b1 : w.heap.size ≤ b1 := by have := hB.size; omega
 replace hB := hB.trans k1
 clear eb1 z1
 refine oga rfl rfl (aT (aS (aS (aR (ogm rfl rfl (aU (bp aB rfl (by first | assumption | exact Own.rd ‹_› | exact Rd.pK ‹_› hB | exact Own.rd (Own.pK ‹_› hB))) rfl (aU (dU rfl rfl) rfl (aT (bF rfl (by omega) (aS (aR (aU (cd (idx := []) (xs := []) (vs := []) (css := []) (out := [_, _, _]) pl35 er rfl rfl trivial rfl rfl) rfl (a6 (ak er rfl rfl rfl (by simp only [List.forall_mem_cons]; refine ⟨rfl, rfl, rfl, fun v hv => by cases hv⟩) hb1 rfl) ?_)))))))))))))
 rintro _ w2 ⟨hb2, k2, z2⟩
 replace hB := hB.new k2 (nw ge_b1)
 clear z2
 replace hb2 : Bk w2 b1 _ [.slice none 0 0, .slice none 0 0, .slice none 0 0] := hb2
 refine oga rfl rfl (aT (cR hfin Tryd.results10 rfl (ae ag35 er hb2 rfl) rfl ?_))
 exact ⟨rfl, hB⟩
theorem ij (v : Value) (xs : List UInt8) (w : World) (hT : Tabs w) (hv : RdB w v xs) (hx : xs.length = 32) : Rets Tryd.prog 10 [v] w (fun r w' => ∃ a h q, r = .tuple #[.agg [a, cut h 32 64 1, q].toArray, .int .i64 0] ∧ OwnB w' w.heap.size a (skB xs) ∧ OwnB w' w.heap.size h (HH xs) ∧ OwnB w' w.heap.size q (pkB xs) ∧ Keep [] w w') := by
 have hB : Keep [] w w := Keep.refl _ _
 refine a7 Tryd.func10 rfl (by decide) Tryd.ntmps10 rfl (fun fin _ hfin => aS (aR (a9 (ab er) rfl ?_)))
 rintro _ w1 ⟨b1, rfl, eb1, hb1, k1, z1⟩
 have ge_b1 : w.heap.size ≤ b1 := by have := hB.size; omega
 replace hB := hB.trans k1
 clear eb1 z1
 refine oga rfl rfl (aT (aS (aS (aR (ogm rfl rfl (aU (bp aB rfl (by first | assumption | exact Own.rd ‹_› | exact Rd.pK ‹_› hB | exact Own.rd (Own.pK ‹_› hB))) rfl (aU (dU rfl rfl) rfl (aT (cU rfl (by omega) (a8 (aS (aR (ogm rfl rfl (a9 (aV (vs := [_]) rfl (kI _ _ _ (hT.pK hB) (hv.pK hB) (by omega))) rfl ?_))))))))))))))
 rintro vh w2 ⟨oh, k2⟩
 have gl_oh := hB.size
 have sb_b1_oh := fun x hx => (show x ≠ b1 from by have h1 := (oh.blk x hx).1; have h2 := hb1.lt; omega)
 obtain ⟨hB, hb1⟩ := bT k2 hB hb1
 refine oga rfl rfl (aT (aS (aR (ogm rfl rfl ?_))))
 have hcap := hh_cap oh
 refine aU (cM (v' := (cut vh 0 32 1)) (i0 aB cZ rfl oh.rd (.inl ⟨rfl, rfl⟩) (.inr ⟨_, _, rfl, rfl⟩) (by have := hcap; omega)) rfl) rfl (a9 (aV (vs := [_]) rfl (mw _ _ _ (hh_take oh) (j9 xs))) rfl ?_)
 rintro _ w3 ⟨va, rfl, oa, k3⟩
 have gl_oa := hB.size
 have sb_b1_oa := fun x hx => (show x ≠ b1 from by have h1 := (oa.blk x hx).1; have h2 := hb1.lt; omega)
 replace hb1 := hb1.pK k3
 replace oh := oh.pK k3
 replace hB := hB.trans k3
 refine ogm rfl rfl (aU (ar (vs := [_, _]) rfl rfl) rfl (aU (ar (vs := [_, _]) rfl rfl) rfl (oga rfl rfl (oga rfl rfl (aT (aW [(2, _), (4, _), (5, _)] ⟨rfl, rfl, rfl, trivial⟩ (aS (bz 8 [0, 1, 2, 3, 4, 5, 6, 7] [5, 6] [] mixed [(5, _), (4, _), (2, _)] ⟨rfl, rfl, rfl, trivial⟩ (by decide +kernel) rfl (fun w4 k4 => ?_)))))))))
 replace hb1 := hb1.pK k4
 replace oh := oh.pK k4
 replace oa := oa.pK k4
 replace hB := hB.trans k4
 refine cQ 5 rfl rfl rfl rfl rfl (cQ 4 rfl rfl rfl rfl rfl (ao 20 rfl rfl rfl rfl (fun W' kk => cM (v' := (cut vh 32 64 1)) (i0 aB cZ rfl ((oh.pK kk).rd) (.inr ⟨_, _, rfl, rfl⟩) (.inl ⟨rfl, rfl⟩) (by rw [eY]; omega)) (by rw [eY]; rfl)) (ct 19 21 rfl rfl rfl rfl rfl (fun W' kk => cd (idx := [0, 1]) (xs := [.tmp 19, .tmp 21]) (vs := [_, _]) (css := [[_], [_]]) (out := [_, _]) pl33 ty33 rfl rfl ⟨Rd.cells (oa.pK kk).rd, Rd.cells (hN (oh.pK kk)), trivial⟩ rfl rfl) (cQ 5 rfl rfl rfl rfl rfl (bx [(23, _)] rfl rfl ⟨rfl, trivial⟩ rfl (aV (vs := [_]) rfl (fD _ (skB xs) _ oa.rd (lY xs))) ?_)))))
 rintro _ w5 ⟨hh1, rfl, E1, k5⟩
 refine ⟨k5, ?_⟩
 replace hb1 := hb1.pK k5
 replace oh := oh.pK k5
 replace oa := oa.pK k5
 replace hB := hB.trans k5
 refine bx [(24, _)] rfl rfl ⟨rfl, trivial⟩ rfl (aV (vs := [_]) rfl (jk E1 _)) ?_
 rintro v1 w6 ⟨o1, k6⟩
 refine ⟨k6, ?_⟩
 have gl_o1 := hB.size
 have sb_b1_o1 := fun x hx => (show x ≠ b1 from by have h1 := (o1.blk x hx).1; have h2 := hb1.lt; omega)
 replace hb1 := hb1.pK k6
 replace oh := oh.pK k6
 replace oa := oa.pK k6
 replace hB := hB.trans k6
 have rcut := hN oh
 refine ct 22 25 rfl rfl rfl rfl rfl (fun W' kk => cd (idx := [0, 1]) (xs := [.tmp 22, .tmp 25]) (vs := [_, _]) (css := [[_, _], [_]]) (out := [_, _, _]) pl35 er rfl rfl ⟨rfl, Rd.cells (by first | exact Rd.pK ‹_› kk | exact Rd.pK (Own.rd ‹_›) kk | exact Rd.pK (Rd.pK ‹_› hB) kk | exact Rd.pK (Own.rd (Own.pK ‹_› hB)) kk), trivial⟩ rfl rfl) (cS (a6 (ak er rfl rfl rfl (by simp only [List.forall_mem_cons]; refine ⟨(by first | rfl | exact Rd.one (by first | assumption | exact Own.rd ‹_› | exact Rd.pK ‹_› hB | exact Own.rd (Own.pK ‹_› hB))), (by first | rfl | exact Rd.one (by first | assumption | exact Own.rd ‹_› | exact Rd.pK ‹_› hB | exact Own.rd (Own.pK ‹_› hB))), (by first | rfl | exact Rd.one (by first | assumption | exact Own.rd ‹_› | exact Rd.pK ‹_› hB | exact Own.rd (Own.pK ‹_› hB))), fun v hv => by cases hv⟩) hb1 rfl) ?_))
 rintro _ w7 ⟨hb2, k7, z2⟩
 replace oh := oh.keep k7 (fun x hx hm => sb_b1_oh x hx (List.mem_singleton.1 hm))
 replace oa := oa.keep k7 (fun x hx hm => sb_b1_oa x hx (List.mem_singleton.1 hm))
 replace o1 := o1.keep k7 (fun x hx hm => sb_b1_o1 x hx (List.mem_singleton.1 hm))
 replace hB := hB.new k7 (nw ge_b1)
 clear z2
 replace hb2 : Bk w7 b1 _ [va, (cut vh 32 64 1), v1] := hb2
 refine oga rfl rfl (aT (aW [(2, _), (3, _)] ⟨rfl, rfl, trivial⟩ (cR hfin Tryd.results10 rfl (ae ag35 er hb2 rfl) rfl ?_)))
 exact ⟨va, vh, _, rfl, oa.lo gl_oa, oh.lo gl_oh, o1.lo gl_o1, hB⟩
theorem nX (v : Value) (a b : List UInt8) (lo : Nat) (w : World) (hT : Tabs w) (hl : SlL w lo 22 v [a, b]) (hx : a.length + b.length ≤ 140737488354000) : Rets Tryd.prog 11 [v] w (fun r w' => OwnB w' w.heap.size r (hashB (a ++ b)) ∧ Keep [] w w') := by
  have h := gJ v [a, b] lo w hT hl (by simpa using hx)
  simpa using h
theorem je (v : Value) (a b c : List UInt8) (lo : Nat) (w : World) (hT : Tabs w) (hl : SlL w lo 22 v [a, b, c]) (hx : a.length + b.length + c.length ≤ 140737488354000) : Rets Tryd.prog 11 [v] w (fun r w' => OwnB w' w.heap.size r (hashB (a ++ b ++ c)) ∧ Keep [] w w') := by
  have h := gJ v [a, b, c] lo w hT hl (by simp only [List.flatten_cons, List.flatten_nil, List.length_append, List.length_nil]; omega)
  simpa using h
def pkE (xs : List UInt8) : Int := if xs.length = 32 then 0 else 1
def pkR (xs : List UInt8) : List UInt8 := if xs.length = 32 then pkB xs else []
def sgE (xs : List UInt8) : Int := if xs.length = 32 then 0 else 1
def sgR (xs ys : List UInt8) : List UInt8 := if xs.length = 32 then sgB xs ys else []
theorem spub_32 (v : Value) (xs : List UInt8) (w : World) (hT : Tabs w) (hv : RdB w v xs) (hx : xs.length = 32) : Rets Tryd.prog 5 [v] w (fun r w' => ∃ u, r = .tuple #[u, .int .i64 (pkE xs)] ∧ OwnB w' w.heap.size u (pkR xs) ∧ Keep [] w w') := by
 have hB : Keep [] w w := Keep.refl _ _
 refine a7 Tryd.func5 rfl (by decide) Tryd.ntmps5 rfl (fun fin _ hfin => aS (aR (oga rfl rfl (oga rfl rfl (aT (aS (aR (ogm rfl rfl (a9 (aV (vs := [_]) rfl (ij _ xs _ (hT.pK hB) (hv.pK hB) hx)) rfl ?_)))))))))
 rintro _ w1 ⟨va, vh, vq, rfl, oa, oh, oq, k1⟩
 have gl_oq := hB.size
 replace hB := hB.trans k1
 refine ogm rfl rfl (aU (ar (vs := [_, _]) rfl rfl) rfl (aU (ar (vs := [_, _]) rfl rfl) rfl (a9 (ab er) rfl ?_)))
 rintro _ w2 ⟨b1, rfl, eb1, hb1, k2, z1⟩
 have ge_b1 : w.heap.size ≤ b1 := by have := hB.size; omega
 have sb_b1_oa := fun x hx => (show x ≠ b1 from by have := (oa.blk x hx).2; omega)
 have sb_b1_oh := fun x hx => (show x ≠ b1 from by have := (oh.blk x hx).2; omega)
 have sb_b1_oq := fun x hx => (show x ≠ b1 from by have := (oq.blk x hx).2; omega)
 replace oa := oa.pK k2
 replace oh := oh.pK k2
 replace oq := oq.pK k2
 replace hB := hB.trans k2
 clear eb1 z1
 have rcut := hN oh
 refine a6 (ak er rfl rfl rfl (by simp only [List.forall_mem_cons]; refine ⟨(by first | rfl | exact Rd.one (by first | assumption | exact Own.rd ‹_› | exact Rd.pK ‹_› hB | exact Own.rd (Own.pK ‹_› hB))), (by first | rfl | exact Rd.one (by first | assumption | exact Own.rd ‹_› | exact Rd.pK ‹_› hB | exact Own.rd (Own.pK ‹_› hB))), (by first | rfl | exact Rd.one (by first | assumption | exact Own.rd ‹_› | exact Rd.pK ‹_› hB | exact Own.rd (Own.pK ‹_› hB))), fun v hv => by cases hv⟩) hb1 rfl) ?_
 rintro _ w3 ⟨hb2, k3, z2⟩
 replace oa := oa.keep k3 (fun x hx hm => sb_b1_oa x hx (List.mem_singleton.1 hm))
 replace oh := oh.keep k3 (fun x hx hm => sb_b1_oh x hx (List.mem_singleton.1 hm))
 replace oq := oq.keep k3 (fun x hx hm => sb_b1_oq x hx (List.mem_singleton.1 hm))
 replace hB := hB.new k3 (nw ge_b1)
 clear z2
 replace hb2 : Bk w3 b1 _ [va, (cut vh 32 64 1), vq] := hb2
 refine oga rfl rfl (aT (aS (aR (aU (aw 2 Tryd.underlying35 rfl iV (by decide) rfl rfl) rfl (aU (aZ kg rfl hb2 rfl) rfl (ogm rfl rfl (oga rfl rfl (oga rfl rfl (aT (aW [(2, _), (3, _)] ⟨rfl, rfl, trivial⟩ (dk hfin Tryd.results5 rfl rfl ?_)))))))))))
 rw [show pkE xs = 0 from if_pos hx, show pkR xs = pkB xs from if_pos hx]
 exact ⟨_, rfl, oq.lo gl_oq, hB⟩
theorem spub_no (v : Value) (xs : List UInt8) (w : World) (hv : RdB w v xs) (hx : ¬ xs.length = 32) : Rets Tryd.prog 5 [v] w (fun r w' => ∃ u, r = .tuple #[u, .int .i64 (pkE xs)] ∧ OwnB w' w.heap.size u (pkR xs) ∧ Keep [] w w') := by
 have hB : Keep [] w w := Keep.refl _ _
 refine a7 Tryd.func5 rfl (by decide) Tryd.ntmps5 rfl (fun fin _ hfin => aS (aR (oga rfl rfl (oga rfl rfl (aT (aS (aR (ogm rfl rfl (a9 (aV (vs := [_]) rfl (ii _ xs _ (hv.pK hB) hx)) rfl ?_)))))))))
 rintro _ w1 ⟨rfl, k1⟩
 replace hB := hB.trans k1
 refine ogm rfl rfl (aU (ar (vs := [_, _]) rfl rfl) rfl (aU (ar (vs := [_, _]) rfl rfl) rfl (a9 (ab er) rfl ?_)))
 rintro _ w2 ⟨b1, rfl, eb1, hb1, k2, z1⟩
 have ge_b1 : w.heap.size ≤ b1 := by have := hB.size; omega
 replace hB := hB.trans k2
 clear eb1 z1
 refine a6 (ak er rfl rfl rfl (by simp only [List.forall_mem_cons]; refine ⟨rfl, rfl, rfl, fun v hv => by cases hv⟩) hb1 rfl) ?_
 rintro _ w3 ⟨hb2, k3, z2⟩
 replace hB := hB.new k3 (nw ge_b1)
 clear z2
 replace hb2 : Bk w3 b1 _ [.slice none 0 0, .slice none 0 0, .slice none 0 0] := hb2
 refine oga rfl rfl (aT (aS (aR (aU (aw 2 Tryd.underlying35 rfl iV (by decide) rfl rfl) rfl (aU (aZ kg rfl hb2 rfl) rfl (ogm rfl rfl (oga rfl rfl (oga rfl rfl (aT (aW [(2, _), (3, _)] ⟨rfl, rfl, trivial⟩ (dk hfin Tryd.results5 rfl rfl ?_)))))))))))
 rw [show pkE xs = 1 from if_neg hx, show pkR xs = [] from if_neg hx]
 exact ⟨_, rfl, dX _ _ _ _, hB⟩
theorem jd (v : Value) (xs : List UInt8) (w : World) (hT : Tabs w) (hv : RdB w v xs) : Rets Tryd.prog 5 [v] w (fun r w' => ∃ u, r = .tuple #[u, .int .i64 (pkE xs)] ∧ OwnB w' w.heap.size u (pkR xs) ∧ Keep [] w w') := by
  by_cases hx : xs.length = 32
  · exact spub_32 v xs w hT hv hx
  · exact spub_no v xs w hv hx
theorem nV (v vt : Value) (xs ys : List UInt8) (w : World) (hT : Tabs w) (hv : RdB w v xs) (hy : RdB w vt ys) (hyl : ys.length ≤ 140737488351232) (hx : xs.length = 32) : Rets Tryd.prog 6 [v, vt] w (fun r w' => ∃ u, r = .tuple #[u, .int .i64 (sgE xs)] ∧ OwnB w' w.heap.size u (sgR xs ys) ∧ Keep [] w w') := by
 have hB : Keep [] w w := Keep.refl _ _
 refine a7 Tryd.func6 rfl (by decide) Tryd.ntmps6 rfl (fun fin _ hfin => aS (aR (oga rfl rfl (oga rfl rfl (aT (aS (aR (ogm rfl rfl (a9 (aV (vs := [_]) rfl (ij _ xs _ (hT.pK hB) (hv.pK hB) hx)) rfl ?_)))))))))
 rintro _ w1 ⟨va, vh, vq, rfl, oa, oh, oq, k1⟩
 replace hB := hB.trans k1
 refine ogm rfl rfl (aU (ar (vs := [_, _]) rfl rfl) rfl (aU (ar (vs := [_, _]) rfl rfl) rfl (a9 (ab er) rfl ?_)))
 rintro _ w2 ⟨b1, rfl, eb1, hb1, k2, z1⟩
 have ge_b1 : w.heap.size ≤ b1 := by have := hB.size; omega
 have sb_b1_oa := fun x hx => (show x ≠ b1 from by have := (oa.blk x hx).2; omega)
 have sb_b1_oh := fun x hx => (show x ≠ b1 from by have := (oh.blk x hx).2; omega)
 have sb_b1_oq := fun x hx => (show x ≠ b1 from by have := (oq.blk x hx).2; omega)
 replace oa := oa.pK k2
 replace oh := oh.pK k2
 replace oq := oq.pK k2
 replace hB := hB.trans k2
 clear eb1 z1
 have rcut := hN oh
 refine a6 (ak er rfl rfl rfl (by simp only [List.forall_mem_cons]; refine ⟨(by first | rfl | exact Rd.one (by first | assumption | exact Own.rd ‹_› | exact Rd.pK ‹_› hB | exact Own.rd (Own.pK ‹_› hB))), (by first | rfl | exact Rd.one (by first | assumption | exact Own.rd ‹_› | exact Rd.pK ‹_› hB | exact Own.rd (Own.pK ‹_› hB))), (by first | rfl | exact Rd.one (by first | assumption | exact Own.rd ‹_› | exact Rd.pK ‹_› hB | exact Own.rd (Own.pK ‹_› hB))), fun v hv => by cases hv⟩) hb1 rfl) ?_
 rintro _ w3 ⟨hb2, k3, z2⟩
 replace oa := oa.keep k3 (fun x hx hm => sb_b1_oa x hx (List.mem_singleton.1 hm))
 replace oh := oh.keep k3 (fun x hx hm => sb_b1_oh x hx (List.mem_singleton.1 hm))
 replace oq := oq.keep k3 (fun x hx hm => sb_b1_oq x hx (List.mem_singleton.1 hm))
 replace hB := hB.new k3 (nw ge_b1)
 clear z2
 replace hb2 : Bk w3 b1 _ [va, (cut vh 32 64 1), vq] := hb2
 refine oga rfl rfl (aT (aS (aS (aR (ogm rfl rfl (aU (dU rfl rfl) rfl (aT (cU rfl (by decide) (a8 (aS (aR (aU (aw 0 Tryd.underlying35 rfl ty33 (by decide) rfl rfl) rfl (aU (aw 1 Tryd.underlying33 rfl iV (by decide) rfl rfl) rfl (aU (aZ kg rfl hb2 rfl) rfl (ogm rfl rfl ?_)))))))))))))))
 have rcut := hN oh
 refine a9 (oz (m := 2) (ls := [pxB xs, ys]) (xs := [.tmp 22, .tmp 23]) (us := [_, _]) aP iV rfl rfl (de (by first | exact Rd.nil _ _ | exact (by first | assumption | exact Own.rd ‹_› | exact Rd.pK ‹_› hB | exact Own.rd (Own.pK ‹_› hB))) (de (by first | exact Rd.nil _ _ | exact (by first | assumption | exact Own.rd ‹_› | exact Rd.pK ‹_› hB | exact Own.rd (Own.pK ‹_› hB))) (jE _))) rfl rfl) rfl ?_
 rintro v1 w4 ⟨sl1, k4⟩
 replace oa := oa.pK k4
 replace oh := oh.pK k4
 replace oq := oq.pK k4
 obtain ⟨hB, hb2⟩ := bT k4 hB hb2
 refine a9 (aV (vs := [_]) rfl (nX _ (pxB xs) ys _ _ (hT.pK hB) sl1 (by have a := l6 xs; have b := gW xs; have c := di (rB xs ys); omega))) rfl ?_
 rintro vr w5 ⟨ovr, k5⟩
 replace oa := oa.pK k5
 replace oh := oh.pK k5
 replace oq := oq.pK k5
 replace hb2 := hb2.pK k5
 replace sl1 := sl1.pK k5
 replace hB := hB.trans k5
 refine oga rfl rfl (aT (aW [(1, _), (6, _), (8, _)] ⟨rfl, rfl, rfl, trivial⟩ (aS (aR (ogm rfl rfl (a9 (aV (vs := [_]) rfl (fD _ (rB xs ys) _ ovr.rd (en _))) rfl ?_))))))
 rintro _ w6 ⟨hh1, rfl, E1, k6⟩
 replace oa := oa.pK k6
 replace oh := oh.pK k6
 replace oq := oq.pK k6
 replace hb2 := hb2.pK k6
 replace sl1 := sl1.pK k6
 replace ovr := ovr.pK k6
 replace hB := hB.trans k6
 refine a9 (aV (vs := [_]) rfl (jk E1 _)) rfl ?_
 rintro vbig w7 ⟨obig, k7⟩
 have gl_obig := hB.size
 replace oa := oa.pK k7
 replace oh := oh.pK k7
 replace oq := oq.pK k7
 replace hb2 := hb2.pK k7
 replace sl1 := sl1.pK k7
 replace ovr := ovr.pK k7
 replace hB := hB.trans k7
 refine oga rfl rfl (aT (aS (bz 15 [0, 1, 2, 3, 6, 7, 8, 9, 4, 5, 10, 11, 12, 13, 14] [4, 5, 10] [] mixed [(9, _), (6, _), (1, _), (8, _)] ⟨rfl, rfl, rfl, rfl, trivial⟩ (by decide +kernel) rfl (fun w8 k8 => ?_))))
 replace oa := oa.pK k8
 replace oh := oh.pK k8
 replace oq := oq.pK k8
 replace hb2 := hb2.pK k8
 replace sl1 := sl1.pK k8
 replace ovr := ovr.pK k8
 replace obig := obig.pK k8
 replace hB := hB.trans k8
 refine cQ 9 rfl rfl rfl rfl rfl (ao 6 rfl rfl rfl rfl (fun W' kk => aw 2 Tryd.underlying35 rfl iV (by decide) rfl rfl) (ao 31 rfl rfl rfl rfl (fun W' kk => aZ kg rfl (Bk.pK hb2 kk) rfl) (cQ 1 rfl rfl rfl rfl rfl (ao 6 rfl rfl rfl rfl (fun W' kk => aw 0 Tryd.underlying35 rfl ty33 (by decide) rfl rfl) (ao 36 rfl rfl rfl rfl (fun W' kk => aw 0 Tryd.underlying33 rfl iV (by decide) rfl rfl) (ao 37 rfl rfl rfl rfl (fun W' kk => aZ kg rfl (Bk.pK hb2 kk) rfl) (cQ 8 rfl rfl rfl rfl rfl (bx [(30, _), (32, _), (33, _)] rfl rfl ⟨rfl, rfl, rfl, trivial⟩ rfl (oz (m := 3) (ls := [gB (rB xs ys), pkB xs, ys]) (xs := [.tmp 30, .tmp 32, .tmp 33]) (us := [_, _, _]) aP iV rfl rfl (de (by first | exact Rd.nil _ _ | exact (by first | assumption | exact Own.rd ‹_› | exact Rd.pK ‹_› hB | exact Own.rd (Own.pK ‹_› hB))) (de (by first | exact Rd.nil _ _ | exact (by first | assumption | exact Own.rd ‹_› | exact Rd.pK ‹_› hB | exact Own.rd (Own.pK ‹_› hB))) (de (by first | exact Rd.nil _ _ | exact (by first | assumption | exact Own.rd ‹_› | exact Rd.pK ‹_› hB | exact Own.rd (Own.pK ‹_› hB))) (jE _)))) rfl rfl) ?_))))))))
 rintro v2 w9 ⟨sl2, k9⟩
 refine ⟨k9, ?_⟩
 replace oa := oa.pK k9
 replace oh := oh.pK k9
 replace oq := oq.pK k9
 replace sl1 := sl1.pK k9
 replace ovr := ovr.pK k9
 replace obig := obig.pK k9
 replace hB := hB.trans k9
 refine bx [(34, _)] rfl rfl ⟨rfl, trivial⟩ rfl (aV (vs := [_]) rfl (je _ (gB (rB xs ys)) (pkB xs) ys _ _ (hT.pK hB) sl2 (by have a := l6 xs; have b := gW xs; have c := di (rB xs ys); omega))) ?_
 rintro vn w10 ⟨ovn, k10⟩
 refine ⟨k10, ?_⟩
 replace oa := oa.pK k10
 replace oh := oh.pK k10
 replace oq := oq.pK k10
 replace sl1 := sl1.pK k10
 replace ovr := ovr.pK k10
 replace obig := obig.pK k10
 replace sl2 := sl2.pK k10
 replace hB := hB.trans k10
 refine bx [(35, _), (38, _), (39, _)] rfl rfl ⟨rfl, rfl, rfl, trivial⟩ rfl (aV (vs := [_, _, _]) rfl (ke _ _ _ _ (skB xs) (rB xs ys) _ ovn.rd oa.rd ovr.rd (en _) (lY _) (en _))) ?_
 rintro _ w11 ⟨v3, rfl, o3, k11⟩
 refine ⟨k11, ?_⟩
 replace oa := oa.pK k11
 replace oh := oh.pK k11
 replace oq := oq.pK k11
 replace sl1 := sl1.pK k11
 replace ovr := ovr.pK k11
 replace obig := obig.pK k11
 replace sl2 := sl2.pK k11
 replace ovn := ovn.pK k11
 replace hB := hB.trans k11
 refine cQ 40 rfl rfl rfl rfl rfl (ao 29 rfl rfl rfl rfl (fun W' kk => ar (vs := [_, _]) rfl rfl) (ao 29 rfl rfl rfl rfl (fun W' kk => ar (vs := [_, _]) rfl rfl) (ao 41 rfl rfl rfl rfl (fun W' kk => fK rfl) (cS (oga rfl rfl (aT (aW [(9, _), (10, _)] ⟨rfl, rfl, trivial⟩ (aS (aR (ogm rfl rfl (ogm rfl rfl (a9 (eW (ys := sgS xs ys) aB cZ rfl (obig.lo gl_obig) rfl o3.rd (by rw [di]; show 32 + (leB _ 32).length ≤ _; rw [dM]; decide) (by have := hB.size; omega)) rfl ?_))))))))))))
 rintro vx wx ⟨ox, kx, _, _⟩
 replace hB := hB.new kx (fun x hx => .inl ((obig.lo gl_obig).blk x hx).1)
 replace ox : OwnB wx w.heap.size vx (sgB xs ys) := by unfold OwnB sgB; rw [List.length_append]; exact ox
 refine oga rfl rfl (oga rfl rfl (aT (dk hfin Tryd.results6 rfl rfl ?_)))
 rw [show sgE xs = 0 from if_pos hx, show sgR xs ys = sgB xs ys from if_pos hx]
 exact ⟨_, rfl, ox, hB⟩
theorem nU (v vt : Value) (xs ys : List UInt8) (w : World) (hv : RdB w v xs) (hx : ¬ xs.length = 32) : Rets Tryd.prog 6 [v, vt] w (fun r w' => ∃ u, r = .tuple #[u, .int .i64 (sgE xs)] ∧ OwnB w' w.heap.size u (sgR xs ys) ∧ Keep [] w w') := by
 have hB : Keep [] w w := Keep.refl _ _
 refine a7 Tryd.func6 rfl (by decide) Tryd.ntmps6 rfl (fun fin _ hfin => aS (aR (oga rfl rfl (oga rfl rfl (aT (aS (aR (ogm rfl rfl (a9 (aV (vs := [_]) rfl (ii _ xs _ (hv.pK hB) hx)) rfl ?_)))))))))
 rintro _ w1 ⟨rfl, k1⟩
 replace hB := hB.trans k1
 refine ogm rfl rfl (aU (ar (vs := [_, _]) rfl rfl) rfl (aU (ar (vs := [_, _]) rfl rfl) rfl (a9 (ab er) rfl ?_)))
 rintro _ w2 ⟨b1, rfl, eb1, hb1, k2, z1⟩
 have ge_b1 : w.heap.size ≤ b1 := by have := hB.size; omega
 replace hB := hB.trans k2
 clear eb1 z1
 refine a6 (ak er rfl rfl rfl (by simp only [List.forall_mem_cons]; refine ⟨rfl, rfl, rfl, fun v hv => by cases hv⟩) hb1 rfl) ?_
 rintro _ w3 ⟨hb2, k3, z2⟩
 replace hB := hB.new k3 (nw ge_b1)
 clear z2
 replace hb2 : Bk w3 b1 _ [.slice none 0 0, .slice none 0 0, .slice none 0 0] := hb2
 refine oga rfl rfl (aT (aS (aS (aR (ogm rfl rfl (aU (dU rfl rfl) rfl (aT (bF rfl (by decide) (aS (aR (ogm rfl rfl (oga rfl rfl (oga rfl rfl (aT (aW [(4, _), (5, _)] ⟨rfl, rfl, trivial⟩ (dk hfin Tryd.results6 rfl rfl ?_))))))))))))))))
 rw [show sgE xs = 1 from if_neg hx, show sgR xs ys = [] from if_neg hx]
 exact ⟨_, rfl, dX _ _ _ _, hB⟩
theorem i3 (v vt : Value) (xs ys : List UInt8) (w : World) (hT : Tabs w) (hv : RdB w v xs) (hy : RdB w vt ys) (hyl : ys.length ≤ 140737488351232) : Rets Tryd.prog 6 [v, vt] w (fun r w' => ∃ u, r = .tuple #[u, .int .i64 (sgE xs)] ∧ OwnB w' w.heap.size u (sgR xs ys) ∧ Keep [] w w') := by
  by_cases hx : xs.length = 32
  · exact nV v vt xs ys w hT hv hy hyl hx
  · exact nU v vt xs ys w hv hx
end Go.Proofs.YtllmbkmghmmhfaaDoor.W
namespace Go.Proofs.YtllmbkmghmmhfaaDoor.W
open Go Go.Eng Go.Byt Go.Fld Go.Ed
attribute [local irreducible] encB
theorem j0 (y : Fp) : decV y ≠ 0 := by
 rw [lH]
 intro h
 have hy : y ≠ 0 := by
   rintro rfl
   have e : d * (0 * 0) + 1 = (1 : Fp) := by generalize d = q; grind -lia -linarith
   rw [e] at h; exact kt h
 have hi := cE hy
 have him := im_sq
 refine ld (im * inv y) ?_
 generalize inv y = i at *
 generalize im = m at *
 generalize d = q at *
 have h2 : q * (y * y) = -1 := by grind -lia -linarith
 have h3 : q = q * (y * i) * (y * i) := by rw [hi]; grind -lia -linarith
 have h4 : q = (q * (y * y)) * (i * i) := by grind -lia -linarith
 rw [h4, h2]
 grind -lia -linarith
theorem l4 {u v : Fp} (h : rootOk u v = true) : rootF u v * rootF u v = u * inv v := by
 have h1 : cm (u * inv v) * cm (u * inv v) = u * inv v := by
   unfold rootOk at h
   simp only [Bool.and_eq_true] at h
   exact of_decide_eq_true h.1
 unfold rootF
 rw [h, cond_true]
 split
 · generalize cm (u * inv v) = r at *
   rw [← h1]; grind -lia -linarith
 · exact h1
theorem lf (r : Fp) (hz : r.val ≠ 0) : (0 - r).val % 2 = 1 ↔ r.val % 2 = 0 := by
 have hr := r.isLt
 have e : (0 - r).val = ((P - r.val) + (0 : Fp).val) % P := by rw [Fin.sub_def]
 have z : (0 : Fp).val = 0 := rfl
 have hP : P % 2 = 1 := by decide +kernel
 have key : ∀ q n : Nat, n ≠ 0 → n < q → q % 2 = 1 → ((q - n) % q % 2 = 1 ↔ n % 2 = 0) := by
   intro q n h1 h2 h3
   rw [Nat.mod_eq_of_lt (show q - n < q by omega)]; omega
 rw [e, z, Nat.add_zero]
 exact key P r.val hz hr hP
theorem mX {u v : Fp} (h : rootOk u v = true) : ¬ oddF (rootF u v) := by
 unfold rootF
 rw [h, cond_true]
 split
 · rename_i ho
   generalize cm (u * inv v) = r at *
   unfold oddF at *
   rw [lf r (by omega)]; omega
 · assumption
theorem mt {xs : List UInt8} (h : decE xs = 0) : xs.length = 32 ∧ fpB (decY xs) = decLow xs ∧ rootOk (decU (decY xs)) (decV (decY xs)) = true ∧ (decOdd xs = true → rootF (decU (decY xs)) (decV (decY xs)) ≠ 0) := by
 unfold decE at h
 by_cases h1 : xs.length = 32
 · rw [if_neg (by omega)] at h
   by_cases h2 : fpB (decY xs) = decLow xs
   · rw [if_neg (by simpa using h2)] at h
     cases h3 : (!rootOk (decU (decY xs)) (decV (decY xs)) || (decOdd xs && decide (rootF (decU (decY xs)) (decV (decY xs)) = 0))) with
     | true => rw [h3, if_pos rfl] at h; cases h
     | false =>
       simp only [Bool.or_eq_false_iff, Bool.not_eq_false', Bool.and_eq_false_iff, decide_eq_false_iff_not] at h3
       refine ⟨h1, h2, h3.1, fun ho => ?_⟩
       rcases h3.2 with h4 | h4
       · rw [ho] at h4; cases h4
       · exact h4
   · rw [if_pos h2] at h; cases h
 · rw [if_pos h1] at h; cases h
theorem decX_sq {xs : List UInt8} (h : decE xs = 0) : decX xs * decX xs = decU (decY xs) * inv (decV (decY xs)) := by
 obtain ⟨_, _, h3, _⟩ := mt h
 have hs := l4 h3
 unfold decX
 split
 · generalize rootF (decU (decY xs)) (decV (decY xs)) = r at *
   rw [← hs]; grind -lia -linarith
 · exact hs
theorem dec_on {xs : List UInt8} (h : decE xs = 0) : OnP (decX xs, decY xs) := by
 have hs := decX_sq h
 have hi := cE (j0 (decY xs))
 show decY xs * decY xs - decX xs * decX xs = 1 + d * decX xs * decX xs * decY xs * decY xs
 rw [ov] at hs
 rw [lH] at hs hi
 generalize decX xs = x at *
 generalize decY xs = y at *
 generalize d = q at *
 generalize inv (q * (y * y) + 1) = i at *
 have e : x * x * (q * (y * y) + 1) = y * y - 1 := by rw [hs]; grind -lia -linarith
 grind -lia -linarith
end Go.Proofs.YtllmbkmghmmhfaaDoor.W
namespace Go.Proofs.YtllmbkmghmmhfaaDoor.W
open Go Go.Eng Go.Byt
open Go.Fld Go.Ed
theorem _root_.Go.Eng.SlL.cblk {w : World} {lo : Nat} {T : TypeId} {v : Value} {ls : List (List UInt8)} (h : Go.Eng.SlL w lo T v ls) : Go.Eng.cblk v = Go.Eng.vblk v := by obtain ⟨us, _, _, h3⟩ := h; exact h3.rd.cblk
attribute [local irreducible] encB decE decX decY pmul padd leI
theorem jl (v : Value) (xs : List UInt8) (w : World) (hv : RdB w v xs) (hx : xs.length = 32) : Rets Tryd.prog 15 [v] w (fun v w' => ∃ p, v = .tuple #[.agg (iv .u64 20 p).toArray, .int .i64 (decE xs)] ∧ (decE xs = 0 → PtR p (dP xs)) ∧ Keep [] w w') :=
  (iU v xs w hv hx).mono fun r w' ⟨p, e, h, _, k⟩ => ⟨p, e, fun h0 => gp (h h0), k⟩
theorem nv {xs : List UInt8} (h : decE xs = 0) : OnP (dP xs) := dec_on h
theorem on_vn {xs ys : List UInt8} (h : decE xs = 0) : OnP (pmul (leI ys).toNat (dP xs)) := cV (nv h) _
theorem n8 (v : Value) (xs : List UInt8) (w : World) (hv : RdB w v xs) (hx : xs.length = 32) : Rets Tryd.prog 16 [v] w (fun r w' => r = .bool (decide (leI xs < 7237005577332262213973186563042994240857116359379907606001950938285454250989)) ∧ Keep [] w w') :=
  (kf v xs w hv).mono fun r w' ⟨e, k⟩ => ⟨by rw [e, decide_eq_true hx, Bool.true_and], k⟩
theorem ssame_g {p q : Nat → Int} {xs : List UInt8} {b : Pt} (hp : PtR p (pmul (leI xs).toNat basePt)) (hq : PtR q b) (w : World) : Rets Tryd.prog 18 [.agg (iv .u64 20 p).toArray, .agg (iv .u64 20 q).toArray] w (fun v w' => v = .bool (decide (gB xs = encB b.1 b.2)) ∧ Keep [] w w') := by unfold gB; exact PsameR hp hq w
theorem kT {w : World} {v : Value} {sg : List UInt8} (h : RdB w v sg) (hl : sg.length = 64) : RdB w (cut v 0 32 1) (sg.take 32) := by
 have := h.cutB (l := 0) (hi := 32) (by decide) (by omega)
 rwa [List.drop_zero] at this
theorem iP {w : World} {v : Value} {sg : List UInt8} (h : RdB w v sg) (hl : sg.length = 64) : RdB w (cut v 32 64 1) (sg.drop 32) := by
 have := h.cutB (l := 32) (hi := 64) (by decide) (by omega)
 rwa [List.take_of_length_le (by rw [List.length_drop]; omega)] at this
theorem nS {sg : List UInt8} (hl : sg.length = 64) : (sg.take 32).length = 32 := by rw [List.length_take]; omega
theorem ol {sg : List UInt8} (hl : sg.length = 64) : (sg.drop 32).length = 32 := by rw [List.length_drop]; omega
theorem ver1 {pk tx sg : List UInt8} (h : pk.length ≠ 32 ∨ sg.length ≠ 64) : verE pk tx sg = 1 := if_pos h
theorem ver30 {pk tx sg : List UInt8} (h : ¬ (pk.length ≠ 32 ∨ sg.length ≠ 64)) (h2 : decE pk ≠ 0) : verE pk tx sg = 30 := by unfold verE; rw [if_neg h, if_pos h2]
theorem ver31 {pk tx sg : List UInt8} (h : ¬ (pk.length ≠ 32 ∨ sg.length ≠ 64)) (h2 : ¬ decE pk ≠ 0) (h3 : decE (sg.take 32) ≠ 0 ∨ ¬ leI (sg.drop 32) < 7237005577332262213973186563042994240857116359379907606001950938285454250989) : verE pk tx sg = 31 := by unfold verE; rw [if_neg h, if_neg h2, if_pos h3]
theorem verX {pk tx sg : List UInt8} (h : ¬ (pk.length ≠ 32 ∨ sg.length ≠ 64)) (h2 : ¬ decE pk ≠ 0) (h3 : ¬ (decE (sg.take 32) ≠ 0 ∨ ¬ leI (sg.drop 32) < 7237005577332262213973186563042994240857116359379907606001950938285454250989)) (h4 : ¬ gB (sg.drop 32) = encB (verP pk tx sg).1 (verP pk tx sg).2) : verE pk tx sg = 31 := by unfold verE; rw [if_neg h, if_neg h2, if_neg h3, if_neg h4]
theorem ver0 {pk tx sg : List UInt8} (h : ¬ (pk.length ≠ 32 ∨ sg.length ≠ 64)) (h2 : ¬ decE pk ≠ 0) (h3 : ¬ (decE (sg.take 32) ≠ 0 ∨ ¬ leI (sg.drop 32) < 7237005577332262213973186563042994240857116359379907606001950938285454250989)) (h4 : gB (sg.drop 32) = encB (verP pk tx sg).1 (verP pk tx sg).2) : verE pk tx sg = 0 := by unfold verE; rw [if_neg h, if_neg h2, if_neg h3, if_pos h4]
theorem sver_64 (va vb vc : Value) (pk tx sg : List UInt8) (w : World) (hT : Tabs w) (hva : RdB w va pk) (hvb : RdB w vb tx) (hvc : RdB w vc sg) (htl : tx.length ≤ 140737488351232) (hlp : pk.length = 32) (hlg : sg.length = 64) : Rets Tryd.prog 8 [va, vb, vc] w (fun r w' => r = .int .i64 (verE pk tx sg) ∧ Keep [] w w') := by
  have hB : Keep [] w w := Keep.refl _ _
  have hcT := kT hvc hlg
  have hcD := iP hvc hlg
  refine a7 Tryd.func8 rfl (by decide) Tryd.ntmps8 rfl (fun fin _ hfin => aS (aR (oga rfl rfl (aT (aS (aS (aR (ogm rfl rfl ?_))))))))
  refine aU (bp aB rfl (by first | assumption | exact Own.rd (by assumption) | exact Rd.pK (by assumption) hB | exact Own.rd (Own.pK (by assumption) hB))) rfl (aU (dU rfl rfl) rfl (ogm rfl rfl (bw (grdT rfl rfl rfl (by simp [hlp])) (ax rfl) rfl (bw (grdT rfl rfl rfl (by simp [hlp])) (bp aB rfl (by first | assumption | exact Own.rd (by assumption) | exact Rd.pK (by assumption) hB | exact Own.rd (Own.pK (by assumption) hB))) rfl (bw (grdT rfl rfl rfl (by simp [hlp])) (dU rfl rfl) rfl (aU (dd rfl (by simp [hlp]) rfl) rfl (aT (cU rfl (by omega) ?_))))))))
  refine a8 (aS (aR (ogm rfl rfl (a9 (aV (vs := [_]) rfl (jl _ pk _ (hva.pK hB) hlp)) rfl ?_))))
  rintro _ w1 ⟨hh1, rfl, E1, k1⟩
  replace hB := hB.trans k1
  refine ogm rfl rfl (aU (ar (vs := [_, _]) rfl rfl) rfl (aU (ar (vs := [_, _]) rfl rfl) rfl (a9 (ab bA) rfl ?_)))
  rintro _ w2 ⟨b1, rfl, eb1, hb1, k2, z1⟩
  have ge_b1 : w.heap.size ≤ b1 := by have := hB.size; omega
  replace hB := hB.trans k2
  clear eb1 z1
  replace hb1 : Bk w2 b1 45 (iv .u64 20 (fun _ => 0)) := by rw [iv, cG]; exact hb1
  refine a6 (dv (vs := iv .u64 20 hh1) bA rfl rfl rfl ad hb1 rfl) ?_
  rintro _ w3 ⟨hb2, k3, z2⟩
  replace hB := hB.new k3 (nw ge_b1)
  clear z2
  refine oga rfl rfl (aT (aW [(0, _), (1, _), (2, _), (7, _), (8, _)] ⟨rfl, rfl, rfl, rfl, rfl, trivial⟩ (aS (aS (aR (ogm rfl rfl (aU (dU rfl rfl) rfl (aT ?_))))))))
  refine bo rfl (fun hc1 => ?_) (fun hc1 => ?_)
  · -- yes
    refine aS (aR (oga rfl rfl (aT (bD hfin Tryd.results8 rfl ?_))))
    exact ⟨by rw [ver30 (by omega) (by omega)], hB⟩
  · -- no
    refine a8 (aS (dm mixed (by decide +kernel) (fun w4 k4 => ?_)))
    obtain ⟨hB, hb2⟩ := bT k4 hB hb2
    refine ac (ax rfl) rfl (ac (cM (v' := (cut vc 0 32 1)) (i0 aB cZ rfl (hvc.pK hB) (.inl ⟨rfl, rfl⟩) (.inr ⟨_, _, rfl, rfl⟩) (by have := hvc.vcap.1; omega)) rfl) rfl (ac (ax rfl) rfl (ac (cM (v' := (cut vc 32 64 1)) (i0 aB cZ rfl (hvc.pK hB) (.inr ⟨_, _, rfl, rfl⟩) (.inl ⟨rfl, rfl⟩) (by have := hvc.vcap.1; omega)) (by rw [show ((sg.length : Nat) : Int).toNat = 64 from by omega]; rfl)) rfl (ac (fK rfl) rfl (ac (fK rfl) rfl (cB (aT (aS ?_))))))))
    refine aR (ogm rfl rfl (a9 (aV (vs := [_]) rfl (jl _ (sg.take 32) _ (kT (hvc.pK hB) hlg) (nS hlg))) rfl ?_))
    rintro _ w5 ⟨hh2, rfl, E2, k5⟩
    obtain ⟨hB, hb2⟩ := bT k5 hB hb2
    refine ogm rfl rfl (aU (ar (vs := [_, _]) rfl rfl) rfl (aU (ar (vs := [_, _]) rfl rfl) rfl (a9 (ab bA) rfl ?_)))
    rintro _ w6 ⟨b2, rfl, eb2, hb3, k6, z3⟩
    have ge_b2 : w.heap.size ≤ b2 := by have := hB.size; omega
    have ne_b1_b2 : b1 ≠ b2 := by have := hb2.lt; omega
    obtain ⟨hB, hb2⟩ := bT k6 hB hb2
    clear eb2 z3
    replace hb3 : Bk w6 b2 45 (iv .u64 20 (fun _ => 0)) := by rw [iv, cG]; exact hb3
    refine a6 (dv (vs := iv .u64 20 hh2) bA rfl rfl rfl ad hb3 rfl) ?_
    rintro _ w7 ⟨hb4, k7, z4⟩
    replace hb2 := hb2.keep k7 (nm ne_b1_b2)
    replace hB := hB.new k7 (nw ge_b2)
    clear z4
    refine oga rfl rfl (aT (aW [(0, _), (1, _), (7, _), (8, _), (9, _), (10, _), (11, _)] ⟨rfl, rfl, rfl, rfl, rfl, rfl, rfl, trivial⟩ (aS (aS (aR (ogm rfl rfl (aU (dU rfl rfl) rfl (ogm rfl rfl ?_))))))))
    refine fy 40 false rfl (fun c1 hgc1 => df [(10, _)] (dh rfl rfl rfl hgc1) ⟨fu rfl, trivial⟩ (fun hw1 => ax rfl) rfl (nr [(41, _)] (dh rfl rfl rfl hgc1) ⟨eA rfl, trivial⟩ (fun hw2 => aV (vs := [_]) rfl (n8 _ (sg.drop 32) _ (iP (hvc.pK hB) hlg) (ol hlg))) rfl ?_))
    rintro w9 k9
    obtain ⟨hB, hb2, hb4⟩ := cX k9 hB hb2 hb4
    refine df [(42, _)] (dh rfl rfl rfl hgc1) ⟨eA rfl, trivial⟩ (fun hw3 => eh rfl) rfl (aU (iB rfl rfl hgc1) rfl (aT (dH rfl (fun hc2 => ?_) (fun hc2 => ?_))))
    · -- yes
      have hd1 := hc2
      try (simp only [Bool.and_eq_true, Bool.or_eq_true, decide_eq_true_eq, Bool.and_eq_false_iff, Bool.or_eq_false_iff, decide_eq_false_iff_not, Bool.not_eq_true', Bool.not_eq_false', Bool.not_eq_true, Bool.not_eq_false, ne_eq, Decidable.not_not] at hd1)
      refine aS (aR (oga rfl rfl (aT (aW [(6, _)] ⟨rfl, trivial⟩ (bD hfin Tryd.results8 rfl ?_)))))
      exact ⟨by first | (rw [ver31 (by omega) (by omega) (by omega)]) | (rw [verX (by omega) (by omega) (by omega) (by simp_all)]), hB⟩
    · -- no
      have hd2 := hc2
      try (simp only [Bool.and_eq_true, Bool.or_eq_true, decide_eq_true_eq, Bool.and_eq_false_iff, Bool.or_eq_false_iff, decide_eq_false_iff_not, Bool.not_eq_true', Bool.not_eq_false', Bool.not_eq_true, Bool.not_eq_false, ne_eq, Decidable.not_not] at hd2)
      refine a8 (aS ?_)
      have gs1 := hB.size
      have lt2 := hb4.lt
      refine ge 11 [0, 1, 2, 3, 4, 5, 6, 7, 8, 9] [4, 5, 6] [] [(10, 45, List.replicate 20 (.int .u64 0))] (x := 9) rfl mixed [(7, _), (9, _), (0, _), (1, _), (10, _), (11, _)] ⟨rfl, rfl, rfl, rfl, rfl, rfl, trivial⟩ (by decide +kernel) (by decide) (by decide) ?_ (fun x hx => by cases hx) rfl (fun w10 k10 => ?_)
      · simp only [List.forall_mem_cons]; exact ⟨⟨_, _, _, _, _, _, rfl, bA⟩, fun q hq => by cases hq⟩
      obtain ⟨hB, hb2, hb4⟩ := cX k10 hB hb2 hb4
      refine af 7 rfl rfl rfl rfl (fun W' kk => aX (cs' := iv .u64 20 hh1) cq bA rfl (Bk.pK hb2 kk) rfl rfl) (cK 9 rfl rfl rfl rfl rfl (cK 0 rfl rfl rfl rfl rfl (cK 1 rfl rfl rfl rfl rfl (bY [(47, _), (48, _), (49, _)] rfl rfl ⟨rfl, rfl, rfl, trivial⟩ rfl (fun w12 k12 => ?_)))))
      obtain ⟨hB, hb2, hb4⟩ := cX k12 hB hb2 hb4
      refine (oz (m := 3) (ls := [(sg.take 32), pk, tx]) (xs := [.tmp 47, .tmp 48, .tmp 49]) (us := [_, _, _]) aP iV rfl rfl (de (by first | exact Rd.nil _ _ | exact (by first | assumption | exact Own.rd (by assumption) | exact Rd.pK (by assumption) hB | exact Own.rd (Own.pK (by assumption) hB))) (de (by first | exact Rd.nil _ _ | exact (by first | assumption | exact Own.rd (by assumption) | exact Rd.pK (by assumption) hB | exact Own.rd (Own.pK (by assumption) hB))) (de (by first | exact Rd.nil _ _ | exact (by first | assumption | exact Own.rd (by assumption) | exact Rd.pK (by assumption) hB | exact Own.rd (Own.pK (by assumption) hB))) (jE _)))) rfl rfl).mono ?_
      rintro v1 w11 ⟨sl1, k11⟩
      refine ⟨k11, (fun x hx => ⟨.inr (sl1.vblk x (sl1.cblk ▸ hx)).1, (sl1.vblk x (sl1.cblk ▸ hx)).2⟩), ?_⟩
      obtain ⟨hB, hb4⟩ := bT k11 hB hb4
      refine bY [(50, _)] rfl rfl ⟨rfl, trivial⟩ rfl (fun w14 k14 => ?_)
      replace hb4 := hb4.pK k14
      replace sl1 := sl1.pK k14
      replace hB := hB.trans k14
      refine (aV (vs := [_]) rfl (je _ (sg.take 32) pk tx _ _ (hT.pK hB) sl1 (by have a := nS hlg; omega))).mono ?_
      rintro v2 w13 ⟨o2, k13⟩
      refine ⟨k13, (fun x hx => ⟨.inr (o2.blk x (o2.rd.cblk ▸ hx)).1, (o2.blk x (o2.rd.cblk ▸ hx)).2⟩), ?_⟩
      replace hb4 := hb4.pK k13
      replace sl1 := sl1.pK k13
      replace hB := hB.trans k13
      refine bY [(46, _), (51, _)] rfl rfl ⟨rfl, rfl, trivial⟩ rfl (fun w16 k16 => ?_)
      replace hb4 := hb4.pK k16
      replace o2 := o2.pK k16
      replace hB := hB.trans k16
      refine (aV (vs := [_, _]) rfl (iy _ (dP pk) _ (hashB (sg.take 32 ++ pk ++ tx)) (E1 (by omega)) (nv (by omega)) _ o2.rd (en _))).mono ?_
      rintro _ w15 ⟨hh3, rfl, E3, k15⟩
      refine ⟨k15, nox, ?_⟩
      replace hb4 := hb4.pK k15
      replace o2 := o2.pK k15
      replace hB := hB.trans k15
      refine cK 52 rfl rfl rfl rfl rfl (af 45 rfl rfl rfl rfl (fun W' kk => ar (vs := [_, _]) rfl rfl) (af 45 rfl rfl rfl rfl (fun W' kk => ar (vs := [_, _]) rfl rfl) (jI (fun w17 k17 => ?_))))
      replace hb4 := hb4.pK k17
      replace o2 := o2.pK k17
      replace hB := hB.trans k17
      intro b3 eb3 lb1 hb5 ds1 sp1
      have ge_b3 : w.heap.size ≤ b3 := Nat.le_trans gs1 eb3
      have ne_b2_b3 : b2 ≠ b3 := Nat.ne_of_lt (Nat.lt_of_lt_of_le lt2 eb3)
      replace hb5 : Bk w17 b3 45 (iv .u64 20 (fun _ => 0)) := by rw [iv, cG]; exact hb5
      have sb_b3_o2 := fun x (hx : x ∈ vblk v2) => sp1 5 (by decide) (by rfl) _ rfl x (by rw [Rd.cblk o2.rd]; exact hx)
      refine iJ (tailx [(12, _), (53, _)] rfl ⟨rfl, rfl, trivial⟩ rfl (dv (vs := iv .u64 20 hh3) bA rfl rfl rfl ad hb5 rfl) ?_)
      rintro _ w18 ⟨hb6, k18, z5⟩
      replace hb4 := hb4.keep k18 (nm ne_b2_b3)
      replace o2 := o2.keep k18 (fun x hx hm => sb_b3_o2 x hx (List.mem_singleton.1 hm))
      replace hB := hB.new k18 (nw ge_b3)
      clear z5
      refine oga rfl rfl (aT (aW [(10, _), (11, _), (12, _)] ⟨rfl, rfl, rfl, trivial⟩ (aS (aS (bz 7 [0, 2, 3, 1, 4, 5, 6] [1, 4, 5] [] mixed [(10, _), (11, _), (12, _)] ⟨rfl, rfl, rfl, trivial⟩ (by decide +kernel) rfl (fun w19 k19 => ?_))))))
      replace hb4 := hb4.pK k19
      replace o2 := o2.pK k19
      obtain ⟨hB, hb6⟩ := bT k19 hB hb6
      refine cQ 10 rfl rfl rfl rfl rfl (ao 11 rfl rfl rfl rfl (fun W' kk => aX (cs' := iv .u64 20 hh2) cq bA rfl (Bk.pK hb4 kk) rfl rfl) (ao 12 rfl rfl rfl rfl (fun W' kk => aX (cs' := iv .u64 20 hh3) cq bA rfl (Bk.pK hb6 kk) rfl rfl) (bx [(55, _)] rfl rfl ⟨rfl, trivial⟩ rfl (aV (vs := [_]) rfl (fD _ (sg.drop 32) _ (iP (hvc.pK hB) hlg) (ol hlg))) ?_)))
      rintro _ w20 ⟨hh4, rfl, E4, k20⟩
      refine ⟨k20, ?_⟩
      replace o2 := o2.pK k20
      replace hB := hB.trans k20
      refine bx [(57, _), (58, _)] rfl rfl ⟨rfl, rfl, trivial⟩ rfl (aV (vs := [_, _]) rfl (PplusR (E2 (by omega)) E3 (nv (by omega)) (on_vn (by omega)) _)) ?_
      rintro _ w21 ⟨hh5, rfl, E5, k21⟩
      refine ⟨k21, ?_⟩
      replace o2 := o2.pK k21
      replace hB := hB.trans k21
      refine bx [(56, _), (59, _)] rfl rfl ⟨rfl, rfl, trivial⟩ rfl (aV (vs := [_, _]) rfl (ssame_g (b := (verP pk tx sg)) E4 E5 _)) ?_
      rintro _ w22 ⟨rfl, k22⟩
      refine ⟨k22, ?_⟩
      replace o2 := o2.pK k22
      replace hB := hB.trans k22
      refine ao 60 rfl rfl rfl rfl (fun W' kk => eh rfl) (cS (aT (bo rfl (fun hc3 => ?_) (fun hc3 => ?_))))
      · -- yes
        refine aS (aR (oga rfl rfl (aT (aW [(6, _)] ⟨rfl, trivial⟩ (bD hfin Tryd.results8 rfl ?_)))))
        exact ⟨by first | (rw [ver31 (by omega) (by omega) (by omega)]) | (rw [verX (by omega) (by omega) (by omega) (by simp_all)]), hB⟩
      · -- no
        refine a8 (aS (aR (oga rfl rfl (aT (aW [(6, _)] ⟨rfl, trivial⟩ (bD hfin Tryd.results8 rfl ?_))))))
        exact ⟨by rw [ver0 (by omega) (by omega) (by omega) (by simp_all)], hB⟩
theorem sver_no (va vb vc : Value) (pk tx sg : List UInt8) (w : World) (hva : RdB w va pk) (hvb : RdB w vb tx) (hvc : RdB w vc sg) (htl : tx.length ≤ 140737488351232) (hno : pk.length ≠ 32 ∨ sg.length ≠ 64) : Rets Tryd.prog 8 [va, vb, vc] w (fun r w' => r = .int .i64 (verE pk tx sg) ∧ Keep [] w w') := by
 have hB : Keep [] w w := Keep.refl _ _
 refine a7 Tryd.func8 rfl (by decide) Tryd.ntmps8 rfl (fun fin _ hfin => aS (aR (oga rfl rfl (aT (aS (aS (aR (ogm rfl rfl (aU (bp aB rfl (by first | assumption | exact Own.rd ‹_› | exact Rd.pK ‹_› hB | exact Own.rd (Own.pK ‹_› hB))) rfl (aU (dU rfl rfl) rfl (ogm rfl rfl (fy 17 false rfl (fun c1 hgc1 => df [(2, _)] (dh rfl rfl rfl hgc1) ⟨fu rfl, trivial⟩ (fun hw1 => ax rfl) rfl (df [(18, _)] (dh rfl rfl rfl hgc1) ⟨eA rfl, trivial⟩ (fun hw2 => bp aB rfl (by first | assumption | exact Own.rd ‹_› | exact Rd.pK ‹_› hB | exact Own.rd (Own.pK ‹_› hB))) rfl (df [(19, _)] (dh rfl rfl rfl hgc1) ⟨eA rfl, trivial⟩ (fun hw3 => dU rfl rfl) rfl (aU (iB rfl rfl hgc1) rfl ?_))))))))))))))))
 refine aT (dH rfl (fun hc1 => ?_) (fun hc1 => ?_))
 ·
  have hd1 := hc1
  try (simp only [Bool.and_eq_true, Bool.or_eq_true, decide_eq_true_eq, Bool.and_eq_false_iff, Bool.or_eq_false_iff, decide_eq_false_iff_not, Bool.not_eq_true', Bool.not_eq_false', Bool.not_eq_true, Bool.not_eq_false, ne_eq, Decidable.not_not] at hd1)
  refine aS (aR (oga rfl rfl (aT (aW [(6, _)] ⟨rfl, trivial⟩ (bD hfin Tryd.results8 rfl ?_)))))
  exact ⟨by rw [ver1 hno], hB⟩
 ·
  have hd2 := hc1
  try (simp only [Bool.and_eq_true, Bool.or_eq_true, decide_eq_true_eq, Bool.and_eq_false_iff, Bool.or_eq_false_iff, decide_eq_false_iff_not, Bool.not_eq_true', Bool.not_eq_false', Bool.not_eq_true, Bool.not_eq_false, ne_eq, Decidable.not_not] at hd2)
  exact absurd hno (by first | omega | (simp_all))
theorem gh (va vb vc : Value) (pk tx sg : List UInt8) (w : World) (hT : Tabs w) (hva : RdB w va pk) (hvb : RdB w vb tx) (hvc : RdB w vc sg) (htl : tx.length ≤ 140737488351232) : Rets Tryd.prog 8 [va, vb, vc] w (fun r w' => r = .int .i64 (verE pk tx sg) ∧ Keep [] w w') := by
  by_cases h : pk.length ≠ 32 ∨ sg.length ≠ 64
  · exact sver_no va vb vc pk tx sg w hva hvb hvc htl h
  · exact sver_64 va vb vc pk tx sg w hT hva hvb hvc htl (by omega) (by omega)
end Go.Proofs.YtllmbkmghmmhfaaDoor.W
namespace Go.Proofs.YtllmbkmghmmhfaaDoor.W
open Go Go.Eng Go.Byt
open Go.Fld Go.Ed
attribute [local irreducible] encB decE decX decY pmul padd leI
end Go.Proofs.YtllmbkmghmmhfaaDoor.W
namespace Go.Proofs.YtllmbkmghmmhfaaDoor.W
open Go Go.Eng Go.Byt Go.Fld Go.Ed
def frc {α : Type} (n : Nat) (k : Nat → α) : α := match n with
 | 0 => k 0
 | m + 1 => k (m + 1)
theorem frc_eq {α : Type} (n : Nat) (k : Nat → α) : frc n k = k n := by cases n <;> rfl
abbrev E4 := Nat × Nat × Nat × Nat
def dN : Nat := 37095705934669439343138083508754565189542113879843219016388785533085940283555
def eaddN (p q : E4) : E4 :=
 frc (p.1 * q.1 % P) fun A => frc (p.2.1 * q.2.1 % P) fun B => frc (p.2.2.2 * q.2.2.2 % P * dN % P) fun C => frc (p.2.2.1 * q.2.2.1 % P) fun D =>
 frc ((p.1 * q.2.1 + p.2.1 * q.1) % P) fun E => frc ((D + (P - 1) * C) % P) fun F => frc ((D + C) % P) fun G => frc ((B + A) % P) fun H =>
 frc (E * F % P) fun X => frc (G * H % P) fun Y => frc (F * G % P) fun Z => frc (E * H % P) fun T => (X, Y, Z, T)
def baseN : E4 := (15112221349535400772501151409588531511454012693041857206046113283949847762202, 46316835694926478169428394003475163141307993866256225615783033603165251855960, 1, 15112221349535400772501151409588531511454012693041857206046113283949847762202 * 46316835694926478169428394003475163141307993866256225615783033603165251855960 % P)
def emulN : Nat → Nat → E4
 | 0, _ => (0, 1, 1, 0)
 | f + 1, n => match emulN f (n / 2) with
   | (X, Y, Z, T) => bif Nat.beq (n % 2) 1 then eaddN (eaddN (X, Y, Z, T) (X, Y, Z, T)) baseN else eaddN (X, Y, Z, T) (X, Y, Z, T)
theorem P_pos : 0 < P := by decide
def fN (n : Nat) : Fp := ⟨n % P, Nat.mod_lt _ P_pos⟩
theorem lD (n : Nat) : fN (n % P) = fN n := Fin.ext (Nat.mod_mod _ _)
theorem o9 (a b : Nat) : fN (a * b) = fN a * fN b := Fin.ext (by rw [gT]; exact Nat.mul_mod _ _ _)
theorem fN_add (a b : Nat) : fN (a + b) = fN a + fN b := Fin.ext (by rw [lS]; exact Nat.add_mod _ _ _)
theorem fN_neg (a c : Fp) : a + fN (P - 1) * c = a - c := by
 have h : fN (P - 1) = -1 := by decide +kernel
 rw [h]
 grind -lia -linarith
theorem fN_d : fN dN = d := by decide +kernel
def RepN (p : E4) (a : Pt) : Prop := Rep (fN p.1) (fN p.2.1) (fN p.2.2.1) (fN p.2.2.2) a
theorem js {p q : E4} {a b : Pt} (ha : OnP a) (hb : OnP b) (hp : RepN p a) (hq : RepN q b) : RepN (eaddN p q) (padd a b) := by
 have h := nf ha hb hp hq
 unfold RepN eaddN
 simp only [frc_eq, lD, o9, fN_add, fN_neg, fN_d]
 have e1 : fN p.1 * fN q.2.1 + fN p.2.1 * fN q.1 = (fN p.1 + fN p.2.1) * (fN q.1 + fN q.2.1) - fN p.1 * fN q.1 - fN p.2.1 * fN q.2.1 := by grind -lia -linarith
 rw [e1]
 exact h
theorem m8 : RepN baseN basePt := by
 refine ⟨by decide +kernel, ?_, ?_, ?_⟩ <;> decide +kernel
theorem m7 : RepN (0, 1, 1, 0) zero := by
 refine ⟨by decide +kernel, ?_, ?_, ?_⟩ <;> decide +kernel
theorem gn : ∀ (f n : Nat), n < 2 ^ f → RepN (emulN f n) (pmul n basePt)
 | 0, n, h => by
   have : n = 0 := by simpa using h
   subst this; exact m7
 | f + 1, n, h => by
   have ih := gn f (n / 2) (by rw [Nat.pow_succ] at h; omega)
   unfold emulN
   generalize emulN f (n / 2) = q at ih
   obtain ⟨X, Y, Z, T⟩ := q
   have h2 := js (cV bt _) (cV bt _) ih ih
   rw [ee bt] at h2
   simp only
   cases hb : Nat.beq (n % 2) 1 with
   | true =>
     have e := Nat.eq_of_beq_eq_true hb
     have h3 := js (cV bt _) bt h2 m8
     rw [cond_true, show n = n / 2 * 2 + 1 by omega, dE bt, ju]
     exact h3
   | false =>
     have e : n % 2 ≠ 1 := fun e => by
       have : Nat.beq (n % 2) 1 = true := by rw [e]; rfl
       rw [this] at hb; cases hb
     rw [cond_false]
     rwa [show n / 2 * 2 = n by omega] at h2
def ordL : Nat := 7237005577332262213973186563042994240857116359379907606001950938285454250989
theorem emul_L : (emulN 253 ordL).1 = 0 ∧ (emulN 253 ordL).2.1 = (emulN 253 ordL).2.2.1 := by decide +kernel
theorem np : pmul ordL basePt = zero := by
 obtain ⟨hz, hx, hy, _⟩ := gn 253 ordL (by decide)
 obtain ⟨e1, e2⟩ := emul_L
 rw [e1] at hx
 rw [e2] at hy
 have h0 : fN 0 = 0 := by decide
 rw [h0] at hx
 have x0 : (pmul ordL basePt).1 = 0 := by
   rcases dT hx.symm with h | h
   · exact h
   · exact absurd h hz
 have y1 : (pmul ordL basePt).2 = 1 := by
   refine fH hz ?_
   rw [← hy]
   generalize fN (emulN 253 ordL).2.2.1 = q
   grind -lia -linarith
 exact Prod.ext x0 y1
theorem jv (n : Nat) : pmul (n % ordL) basePt = pmul n basePt := by
 have e : pmul n basePt = pmul (n % ordL + ordL * (n / ordL)) basePt := by rw [Nat.mod_add_div]
 rw [e, dE bt, ef bt, np, ic, dw]
end Go.Proofs.YtllmbkmghmmhfaaDoor.W
namespace Go.Fld
open Go Go.Eng Go.Ed Go.Byt
def ordL : List Int := [237, 211, 245, 92, 26, 99, 18, 88, 214, 156, 247, 162, 222, 249, 222, 20, 0, 0, 0, 0, 0, 0, 0, 0, 0, 0, 0, 0, 0, 0, 0, 16, 0, 0]
theorem li : ∀ (n : Int) (k i : Nat), i < k → (leB n k)[i]? = some (UInt8.ofNat (n / 256 ^ i % 256).toNat)
 | n, 0, i, h => by omega
 | n, k + 1, 0, _ => by simp [leB]
 | n, k + 1, i + 1, h => by
   rw [leB, List.getElem?_cons_succ, li (n / 256) k i (by omega), Int.pow_succ, Int.mul_comm, ← Int.ediv_ediv_of_nonneg (by decide)]
end Go.Fld
namespace Go.Proofs.YtllmbkmghmmhfaaDoor.W
open Go Go.Eng Go.Byt Go.Fld Go.Ed
theorem i4_sq : fpow 2 14474011154664524427946373126085988481658748083205070504932198000989141204987 * fpow 2 14474011154664524427946373126085988481658748083205070504932198000989141204987 = (-1 : Fp) := by
 rw [← d6]
 apply Fin.ext
 rw [jX _ _ (by decide +kernel)]
 decide +kernel
theorem quarter {x : Fp} (hx : x ≠ 0) : dq (x * x) * dq (x * x) * (dq (x * x) * dq (x * x)) = (x * x) * (x * x) := by
 have h2 : x * x = fpow x 2 := by show x * x = 1 * x * x; rw [Fin.one_mul]
 have h4 : fpow x 4 = (x * x) * (x * x) := by rw [show (4 : Nat) = 2 + 2 from rfl, d6, ← h2]
 unfold dq
 rw [← h4, h2, ← fe, ← d6, ← d6, show 2 * 7237005577332262213973186563042994240829374041602535252466099000494570602494 + 2 * 7237005577332262213973186563042994240829374041602535252466099000494570602494 + (2 * 7237005577332262213973186563042994240829374041602535252466099000494570602494 + 2 * 7237005577332262213973186563042994240829374041602535252466099000494570602494) = (P - 1) + 4 from by decide +kernel, d6, fermat hx, Fin.one_mul]
theorem nc (x : Fp) : cm (x * x) * cm (x * x) = x * x := by
 unfold cm
 by_cases hq : dq (x * x) * dq (x * x) = x * x
 · rw [if_pos hq]; exact hq
 · rw [if_neg hq]
   by_cases hx : x = 0
   · exfalso
     subst hx
     refine hq ?_
     have e : (0 : Fp) * 0 = 0 := Fin.zero_mul _
     rw [e]
     unfold dq
     rw [show 7237005577332262213973186563042994240829374041602535252466099000494570602494 = 7237005577332262213973186563042994240829374041602535252466099000494570602493 + 1 from rfl, fpow, Fin.mul_zero]
     exact e
   · have h4 := quarter hx
     have hi := i4_sq
     generalize dq (x * x) = r at *
     generalize fpow 2 14474011154664524427946373126085988481658748083205070504932198000989141204987 = i at *
     have hz : (r * r - x * x) * (r * r + x * x) = 0 := by grind -lia -linarith
     rcases dT hz with h | h
     · exact absurd (by grind -lia -linarith) hq
     · grind -lia -linarith
theorem ky (y : Fp) : In (gb (fpB y) 31) 0 127 := by
 have h : y.val < 57896044618658097711785492504343953926634992332820282019728792003956564819949 := y.isLt
 unfold gb fpB
 rw [show (31 : Int).toNat = 31 from rfl, List.getD_eq_getElem?_getD, li _ 32 31 (by decide)]
 simp only [Option.getD_some]
 have hp : (256 : Int) ^ 31 = 452312848583266388373324160190187140051835877600158453279131187530910662656 := by decide +kernel
 rw [hp]
 have hb : (y.val : Int) / 452312848583266388373324160190187140051835877600158453279131187530910662656 < 128 := by omega
 have hb0 : 0 ≤ (y.val : Int) / 452312848583266388373324160190187140051835877600158453279131187530910662656 := by omega
 generalize (y.val : Int) / 452312848583266388373324160190187140051835877600158453279131187530910662656 = q at *
 unfold In
 simp
 omega
theorem kY {g s : Int} (hg : In g 0 127) (hs : In s 0 255) : In (bits .or .u8 g (IntKind.u8.wrap (s * 128))) 0 255 ∧ bits .andNot .u8 (bits .or .u8 g (IntKind.u8.wrap (s * 128))) 128 = g ∧ (bits .or .u8 g (IntKind.u8.wrap (s * 128)) / 128 = 1 ↔ s % 2 = 1) := by
 have k1 : ∀ n : Fin 256, IntKind.u8.wrap ((n.val : Int) * 128) = if n.val % 2 = 1 then 128 else 0 := by decide +kernel
 have k2 : ∀ n : Fin 128, (0 ≤ bits .or .u8 (n.val : Int) 128 ∧ bits .or .u8 (n.val : Int) 128 ≤ 255) ∧ bits .andNot .u8 (bits .or .u8 (n.val : Int) 128) 128 = (n.val : Int) ∧ bits .or .u8 (n.val : Int) 128 / 128 = 1 := by decide +kernel
 have k3 : ∀ n : Fin 128, (0 ≤ bits .or .u8 (n.val : Int) 0 ∧ bits .or .u8 (n.val : Int) 0 ≤ 255) ∧ bits .andNot .u8 (bits .or .u8 (n.val : Int) 0) 128 = (n.val : Int) ∧ bits .or .u8 (n.val : Int) 0 / 128 ≠ 1 := by decide +kernel
 unfold In at hg hs
 have e1 := k1 ⟨s.toNat, by omega⟩
 have e2 := k2 ⟨g.toNat, by omega⟩
 have e3 := k3 ⟨g.toNat, by omega⟩
 simp only at e1 e2 e3
 rw [show ((s.toNat : Nat) : Int) = s by omega] at e1
 rw [show ((g.toNat : Nat) : Int) = g by omega] at e2 e3
 rw [e1]
 by_cases hc : s % 2 = 1
 · rw [if_pos (by omega)]; exact ⟨e2.1, e2.2.1, fun _ => hc, fun _ => e2.2.2⟩
 · rw [if_neg (by omega)]; exact ⟨e3.1, e3.2.1, fun h => absurd h e3.2.2, fun h => absurd h hc⟩
theorem odd_gb (x : Fp) : gb (fpB x) 0 % 2 = 1 ↔ oddF x := by
 have ho := odd0 x
 rw [bd (k := .u8) (a := 0) (b := 255) 1 (c := 1) (m := 2) (cc _ _) rfl rfl rfl rfl rfl rfl] at ho
 exact ho
theorem lv (x y : Fp) : gb (encB x y) 31 = bits .or .u8 (gb (fpB y) 31) (IntKind.u8.wrap (gb (fpB x) 0 * 128)) := by
 have h := (kY (ky y) (cc (fpB x) 0)).1
 unfold encB
 generalize bits .or .u8 (gb (fpB y) 31) (IntKind.u8.wrap (gb (fpB x) 0 * 128)) = q at *
 unfold gb
 rw [show (31 : Int).toNat = 31 from rfl, List.getD_eq_getElem?_getD, List.getElem?_set_self (by rw [av]; decide)]
 simp only [Option.getD_some]
 unfold In at h
 simp
 omega
theorem lw (x y : Fp) : decLow (encB x y) = fpB y := by
 have h := (kY (ky y) (cc (fpB x) 0)).2.1
 have hl := av y
 unfold decLow
 rw [lv, h]
 unfold encB
 rw [List.set_set]
 have e : UInt8.ofNat (gb (fpB y) 31).toNat = (fpB y)[31]'(by omega) := by
   unfold gb
   rw [show (31 : Int).toNat = 31 from rfl, List.getD_eq_getElem?_getD, List.getElem?_eq_getElem (by omega)]
   simp
 rw [e, List.set_getElem_self]
theorem enc_y (x y : Fp) : decY (encB x y) = y := by unfold decY; rw [lw, eT]
theorem enc_odd (x y : Fp) : decOdd (encB x y) = true ↔ oddF x := by
 unfold decOdd
 rw [decide_eq_true_eq, lv, (kY (ky y) (cc (fpB x) 0)).2.2, odd_gb]
theorem enc_q {x y : Fp} (h : On x y) : decU y * inv (decV y) = x * x := by
 have hi := cE (j0 y)
 unfold On at h
 rw [ov]
 rw [lH] at hi ⊢
 generalize inv (d * (y * y) + 1) = i at *
 generalize d = q at *
 have e : y * y - 1 = x * x * (q * (y * y) + 1) := by grind -lia -linarith
 rw [e]
 grind -lia -linarith
theorem lF {x y : Fp} (h : On x y) : rootOk (decU y) (decV y) = true := by
 unfold rootOk
 rw [enc_q h, decide_eq_true (nc x), decide_eq_false (j0 y)]; rfl
theorem oe {x y : Fp} (h : On x y) : (oddF x → x = 0 - rootF (decU y) (decV y)) ∧ (¬ oddF x → x = rootF (decU y) (decV y)) := by
 have h1 := l4 (lF h)
 have h2 := mX (lF h)
 rw [enc_q h] at h1
 generalize rootF (decU y) (decV y) = r at *
 have hz : (r - x) * (r + x) = 0 := by grind -lia -linarith
 rcases dT hz with e | e
 · have : x = r := by grind -lia -linarith
   subst this
   exact ⟨fun ho => absurd ho h2, fun _ => rfl⟩
 · have hx : x = 0 - r := by grind -lia -linarith
   refine ⟨fun _ => hx, fun ho => ?_⟩
   by_cases hr : r.val = 0
   · have : r = 0 := Fin.ext hr
     rw [hx, this]; grind -lia -linarith
   · exfalso
     have := lf r hr
     unfold oddF at ho h2
     rw [hx] at ho
     omega
theorem fg {a : Pt} (h : OnP a) : decE (encB a.1 a.2) = 0 ∧ decX (encB a.1 a.2) = a.1 ∧ decY (encB a.1 a.2) = a.2 := by
 obtain ⟨x, y⟩ := a
 have hl : (encB x y).length = 32 := by unfold encB; rw [List.length_set, av]
 obtain ⟨hr1, hr2⟩ : (oddF x → x = 0 - rootF (decU y) (decV y)) ∧ (¬ oddF x → x = rootF (decU y) (decV y)) := oe h
 show decE (encB x y) = 0 ∧ decX (encB x y) = x ∧ decY (encB x y) = y
 have hy := enc_y x y
 have ho := enc_odd x y
 refine ⟨?_, ?_, hy⟩
 · unfold decE
   rw [if_neg (by omega), hy, if_neg (by rw [lw]; simp), lF h]
   rw [if_neg]
   simp only [Bool.not_true, Bool.false_or, Bool.and_eq_true, decide_eq_true_eq, not_and]
   intro h1 h2
   have hx := hr1 (ho.1 h1)
   rw [h2] at hx
   have hx : x = 0 := by rw [hx]; grind -lia -linarith
   have := ho.1 h1
   rw [hx] at this
   exact absurd this (by decide)
 · unfold decX
   rw [hy]
   by_cases hc : decOdd (encB x y) = true
   · rw [if_pos hc]; exact (hr1 (ho.1 hc)).symm
   · rw [if_neg hc]; exact (hr2 (fun h => hc (ho.2 h))).symm
end Go.Proofs.YtllmbkmghmmhfaaDoor.W
namespace Go.Sha
open Go Go.Eng Go.Byt
section
variable {n : Nat}
def frB {α : Type} (x : BitVec n) (k : BitVec n → α) : α := match x.toNat with
 | 0 => k (BitVec.ofNat n 0)
 | m + 1 => k (BitVec.ofNat n (m + 1))
theorem jW {α : Type} (x : BitVec n) (k : BitVec n → α) : frB x k = k x := by
 have h : BitVec.ofNat n x.toNat = x := by simp
 unfold frB
 split
 · next e => rw [e] at h; rw [h]
 · next m e => rw [e] at h; rw [h]
def rndF (P : Pl n) (k w : BitVec n) : S8 n → S8 n
 | ⟨a, b, c, d, e, f, g, h⟩ => frB (h + hi P.u1 e + ((e &&& f) ^^^ (~~~e &&& g)) + k + w) fun t1 => frB (hi P.u0 a + ((a &&& b) ^^^ (a &&& c) ^^^ (b &&& c))) fun t2 => frB (t1 + t2) fun a' => frB (d + t1) fun e' => ⟨a', a, b, c, e', e, f, g⟩
theorem rndF_eq (P : Pl n) (k w : BitVec n) (x : S8 n) : rndF P k w x = rnd P k w x := by
 obtain ⟨a, b, c, d, e, f, g, h⟩ := x
 unfold rndF rnd
 simp only [jW]
def rndsF (P : Pl n) (K : List Nat) (r : List (BitVec n)) (N : Nat) (s : S8 n) : Nat → S8 n
 | 0 => s
 | t + 1 => match rndsF P K r N s t with
   | ⟨a, b, c, d, e, f, g, h⟩ => rndF P (cst n K t) (r.getD (N - 1 - t) 0) ⟨a, b, c, d, e, f, g, h⟩
theorem jq (P : Pl n) (K : List Nat) (w : List (BitVec n)) (s : S8 n) : ∀ t, t ≤ w.length → rndsF P K w.reverse w.length s t = rnds P K w s t
 | 0, _ => rfl
 | t + 1, h => by
   have e : w.reverse.getD (w.length - 1 - t) 0 = w.getD t 0 := by
     rw [List.getD_eq_getElem?_getD, List.getD_eq_getElem?_getD, List.getElem?_reverse (by omega), show w.length - 1 - (w.length - 1 - t) = t from by omega]
   rw [rndsF, rnds, jq P K w s t (by omega), e, ← rndF_eq]
def goS (P : Pl n) : Nat → List (BitVec n) → List (BitVec n)
 | 0, r => r
 | k + 1, r => frB (lo P.l1 (r.getD 1 0) + r.getD 6 0 + lo P.l0 (r.getD 14 0) + r.getD 15 0) fun v => goS P k (v :: r)
theorem oM (P : Pl n) (b : List UInt8) : ∀ k j, goS P k (sch P b j).reverse = (sch P b (j + k)).reverse
 | 0, j => rfl
 | k + 1, j => by
   have hl := eR P b j
   have e : ∀ i, i < 16 → (sch P b j).reverse.getD i 0 = (sch P b j).getD (15 + j - i) 0 := fun i hi => by
     rw [List.getD_eq_getElem?_getD, List.getD_eq_getElem?_getD, List.getElem?_reverse (by omega), hl, show 16 + j - 1 - i = 15 + j - i from by omega]
   rw [goS, jW, e 1 (by decide), e 6 (by decide), e 14 (by decide), e 15 (by decide)]
   have hs : (lo P.l1 ((sch P b j).getD (15 + j - 1) 0) + (sch P b j).getD (15 + j - 6) 0 + lo P.l0 ((sch P b j).getD (15 + j - 14) 0) + (sch P b j).getD (15 + j - 15) 0) :: (sch P b j).reverse = (sch P b (j + 1)).reverse := by
     rw [sch, List.reverse_append]
     show _ = nxt P (sch P b j) (16 + j) :: (sch P b j).reverse
     unfold nxt
     rw [show 16 + j - 2 = 15 + j - 1 from by omega, show 16 + j - 7 = 15 + j - 6 from by omega, show 16 + j - 15 = 15 + j - 14 from by omega, show 16 + j - 16 = 15 + j - 15 from by omega]
   rw [hs, oM P b k (j + 1), show j + 1 + k = j + (k + 1) from by omega]
def iniF (b : List UInt8) : Nat → List (BitVec n)
 | 0 => []
 | k + 1 => frB (wrd n b k) fun v => v :: iniF b k
theorem ln (b : List UInt8) : ∀ k, iniF (n := n) b k = ((List.range k).map (wrd n b)).reverse
 | 0 => rfl
 | k + 1 => by rw [iniF, jW, ln b k, List.range_succ, List.map_append, List.reverse_append]; rfl
def blkF (P : Pl n) (K : List Nat) (b : List UInt8) (s : S8 n) : S8 n := match rndsF P K (goS P (P.R - 16) (iniF b 16)) P.R s P.R with
 | ⟨a, b, c, d, e, f, g, h⟩ => frB (s.a + a) fun a => frB (s.b + b) fun b => frB (s.c + c) fun c => frB (s.d + d) fun d => frB (s.e + e) fun e => frB (s.f + f) fun f => frB (s.g + g) fun g => frB (s.h + h) fun h => ⟨a, b, c, d, e, f, g, h⟩
theorem blkF_eq (P : Pl n) (K : List Nat) (b : List UInt8) (s : S8 n) (hR : 16 ≤ P.R) : blkF P K b s = blk P K b s := by
 have e1 : iniF (n := n) b 16 = (sch P b 0).reverse := by rw [ln]; rfl
 have e2 : goS P (P.R - 16) (iniF b 16) = (sch P b (P.R - 16)).reverse := by rw [e1, oM, Nat.zero_add]
 have hl : (sch P b (P.R - 16)).length = P.R := by rw [eR]; omega
 have e3 := jq P K (sch P b (P.R - 16)) s P.R (by omega)
 rw [hl] at e3
 unfold blkF blk plus8
 rw [e2, e3]
 simp only [jW]
theorem gU {P : Pl n} {K H : List Nat} {b pb : List UInt8} (hR : 16 ≤ P.R) (hn : 0 < n) (hp : pad n b = pb) (hl : pb.length = 2 * n) : sum P K H b = out8 (blkF P K pb (st8 n H)) := by
 unfold sum
 rw [hp, hl, Nat.div_self (by omega), blks, blks, List.take_of_length_le (by omega), blkF_eq P K pb _ hR]
end
end Go.Sha
namespace Go.Proofs.YtllmbkmghmmhfaaDoor.W
open Go Go.Eng Go.Byt
open Go.Fld Go.Ed
def l_h : List UInt8 := [80, 70, 173, 193, 219, 168, 56, 134, 123, 43, 187, 253, 208, 195, 66, 62, 88, 181, 121, 112, 181, 38, 122, 144, 245, 121, 96, 146, 74, 135, 241, 150, 10, 106, 133, 234, 166, 66, 218, 200, 53, 66, 75, 93, 124, 141, 99, 124, 0, 64, 140, 122, 115, 218, 103, 43, 127, 73, 133, 33, 66, 11, 109, 211]
def l_s : List UInt8 := [80, 70, 173, 193, 219, 168, 56, 134, 123, 43, 187, 253, 208, 195, 66, 62, 88, 181, 121, 112, 181, 38, 122, 144, 245, 121, 96, 146, 74, 135, 241, 86]
def l_px : List UInt8 := [10, 106, 133, 234, 166, 66, 218, 200, 53, 66, 75, 93, 124, 141, 99, 124, 0, 64, 140, 122, 115, 218, 103, 43, 127, 73, 133, 33, 66, 11, 109, 211]
def ml : List UInt8 := [59, 106, 39, 188, 206, 182, 164, 45, 98, 163, 168, 208, 42, 111, 13, 115, 101, 50, 21, 119, 29, 226, 67, 166, 58, 192, 72, 161, 139, 89, 218, 41]
def l_hr : List UInt8 := [237, 97, 107, 212, 26, 238, 14, 43, 106, 34, 164, 163, 230, 100, 26, 207, 91, 39, 222, 231, 72, 83, 52, 142, 137, 136, 226, 197, 59, 29, 195, 202, 229, 15, 237, 148, 53, 47, 53, 43, 226, 68, 78, 244, 187, 102, 152, 79, 244, 24, 122, 126, 178, 33, 87, 74, 187, 241, 7, 22, 242, 246, 228, 143]
def jO : List UInt8 := [53, 21, 111, 120, 165, 98, 138, 224, 165, 248, 124, 236, 208, 37, 138, 13, 242, 216, 81, 96, 166, 166, 4, 142, 13, 95, 220, 189, 2, 104, 224, 15]
def kD : List UInt8 := [119, 80, 213, 221, 193, 50, 156, 219, 224, 181, 237, 117, 127, 0, 200, 234, 53, 171, 78, 23, 32, 208, 172, 199, 214, 54, 148, 81, 190, 239, 157, 20]
def l_hk : List UInt8 := [162, 190, 238, 182, 243, 73, 151, 135, 169, 174, 164, 7, 254, 181, 48, 127, 119, 159, 43, 126, 223, 242, 240, 247, 28, 243, 88, 5, 4, 94, 179, 6, 67, 59, 180, 160, 46, 143, 160, 109, 246, 161, 4, 11, 72, 127, 187, 153, 247, 23, 110, 4, 244, 130, 140, 251, 141, 68, 81, 216, 47, 136, 31, 221]
def l_kb : List UInt8 := [89, 29, 150, 19, 191, 211, 243, 119, 13, 255, 10, 225, 164, 72, 215, 152, 40, 9, 90, 37, 100, 125, 14, 80, 24, 27, 19, 35, 80, 187, 207, 11]
def kE : List UInt8 := [117, 230, 182, 85, 32, 12, 76, 146, 239, 183, 3, 124, 12, 38, 145, 93, 43, 47, 186, 9, 169, 51, 109, 32, 117, 21, 7, 195, 227, 143, 34, 7]
def l_SE : List UInt8 := [88, 74, 222, 186, 162, 163, 86, 176, 255, 176, 135, 23, 104, 190, 118, 77, 217, 206, 250, 234, 122, 172, 183, 26, 187, 187, 139, 143, 57, 32, 181, 148]
def l_hk2 : List UInt8 := [13, 52, 91, 54, 179, 245, 134, 16, 90, 10, 120, 33, 70, 114, 55, 242, 221, 232, 230, 151, 108, 50, 139, 40, 62, 143, 134, 115, 94, 224, 175, 251, 170, 167, 15, 158, 43, 56, 78, 146, 254, 133, 141, 45, 19, 243, 97, 34, 140, 29, 41, 67, 20, 74, 224, 0, 17, 33, 199, 168, 224, 69, 73, 132]
def l_k2b : List UInt8 := [93, 213, 114, 77, 249, 245, 133, 234, 240, 35, 180, 11, 58, 231, 252, 61, 27, 29, 7, 251, 223, 231, 134, 139, 84, 42, 194, 115, 220, 35, 159, 14]
def l_ma : List UInt8 := [10, 106, 133, 234, 166, 66, 218, 200, 53, 66, 75, 93, 124, 141, 99, 124, 0, 64, 140, 122, 115, 218, 103, 43, 127, 73, 133, 33, 66, 11, 109, 211, 97]
def l_mb : List UInt8 := [119, 80, 213, 221, 193, 50, 156, 219, 224, 181, 237, 117, 127, 0, 200, 234, 53, 171, 78, 23, 32, 208, 172, 199, 214, 54, 148, 81, 190, 239, 157, 20, 59, 106, 39, 188, 206, 182, 164, 45, 98, 163, 168, 208, 42, 111, 13, 115, 101, 50, 21, 119, 29, 226, 67, 166, 58, 192, 72, 161, 139, 89, 218, 41, 97]
def l_mc : List UInt8 := [119, 80, 213, 221, 193, 50, 156, 219, 224, 181, 237, 117, 127, 0, 200, 234, 53, 171, 78, 23, 32, 208, 172, 199, 214, 54, 148, 81, 190, 239, 157, 20, 59, 106, 39, 188, 206, 182, 164, 45, 98, 163, 168, 208, 42, 111, 13, 115, 101, 50, 21, 119, 29, 226, 67, 166, 58, 192, 72, 161, 139, 89, 218, 41, 98]
def chkN : E4 → Nat → Nat → Bool
 | (X, Y, Z, T), x, y => Nat.beq (x * Z % P) (X % P) && Nat.beq (y * Z % P) (Y % P)
theorem jG {f n x y : Nat} (hn : n < 2 ^ f) (h : chkN (emulN f n) x y = true) : pmul n basePt = (fN x, fN y) := by
 obtain ⟨hz, hx, hy, _⟩ := gn f n hn
 generalize emulN f n = q at *
 obtain ⟨X, Y, Z, T⟩ := q
 unfold chkN at h
 rw [Bool.and_eq_true] at h
 have e1 := congrArg fN (Nat.eq_of_beq_eq_true h.1)
 have e2 := congrArg fN (Nat.eq_of_beq_eq_true h.2)
 rw [lD, lD, o9] at e1 e2
 simp only at hx hy hz
 refine Prod.ext ?_ ?_
 · exact fH hz (hx.symm.trans e1.symm)
 · exact fH hz (hy.symm.trans e2.symm)
theorem jV (n : List UInt8) : decE (gB n) = 0 ∧ dP (gB n) = pmul (leI n).toNat basePt := by
 unfold gB dP
 obtain ⟨h1, h2, h3⟩ := fg (cV bt (leI n).toNat)
 exact ⟨h1, Prod.ext h2 h3⟩
theorem verP_gB {r a tx sg : List UInt8} (h : sg.take 32 = gB r) : verP (gB a) tx sg = pmul ((leI r).toNat + (leI a).toNat * (leI (hashB (gB r ++ gB a ++ tx))).toNat) basePt := by
 unfold verP
 rw [h, (jV r).2, (jV a).2, ← ef bt, ← dE bt]
set_option maxRecDepth 100000
theorem kh0 : HH (List.replicate 32 0) = l_h := by
 unfold HH
 rw [Go.Sha.gU (pb := ([0, 0, 0, 0, 0, 0, 0, 0, 0, 0, 0, 0, 0, 0, 0, 0, 0, 0, 0, 0, 0, 0, 0, 0, 0, 0, 0, 0, 0, 0, 0, 0, 128, 0, 0, 0, 0, 0, 0, 0, 0, 0, 0, 0, 0, 0, 0, 0, 0, 0, 0, 0, 0, 0, 0, 0, 0, 0, 0, 0, 0, 0, 0, 0, 0, 0, 0, 0, 0, 0, 0, 0, 0, 0, 0, 0, 0, 0, 0, 0, 0, 0, 0, 0, 0, 0, 0, 0, 0, 0, 0, 0, 0, 0, 0, 0, 0, 0, 0, 0, 0, 0, 0, 0, 0, 0, 0, 0, 0, 0, 0, 0, 0, 0, 0, 0, 0, 0, 0, 0, 0, 0, 0, 0, 0, 0, 1, 0] : List UInt8)) (by decide) (by decide) (by decide +kernel) (by decide +kernel)]
 decide +kernel
theorem ksk : skB (List.replicate 32 0) = l_s := by unfold skB; rw [kh0]; decide +kernel
theorem kpx : pxB (List.replicate 32 0) = l_px := by unfold pxB; rw [kh0]; decide +kernel
theorem kga : gB l_s = ml := by
 have h := jG (f := 255) (n := 39325648866980652792715009169219496062012184734522019333892538943312776480336) (x := 9639205628789703341510410801487549615560488670885798085067615194958049462616) (y := 18930617471878267742194159801949745215346600387277955685031939302387136031291) (by decide +kernel) (by decide +kernel)
 unfold gB
 rw [show (leI l_s).toNat = 39325648866980652792715009169219496062012184734522019333892538943312776480336 from by decide +kernel, h]
 decide +kernel
theorem kpk : pkB (List.replicate 32 0) = ml := by unfold pkB; rw [ksk, kga]
theorem kh1 : HH (l_ma) = l_hr := by
 unfold HH
 rw [Go.Sha.gU (pb := ([10, 106, 133, 234, 166, 66, 218, 200, 53, 66, 75, 93, 124, 141, 99, 124, 0, 64, 140, 122, 115, 218, 103, 43, 127, 73, 133, 33, 66, 11, 109, 211, 97, 128, 0, 0, 0, 0, 0, 0, 0, 0, 0, 0, 0, 0, 0, 0, 0, 0, 0, 0, 0, 0, 0, 0, 0, 0, 0, 0, 0, 0, 0, 0, 0, 0, 0, 0, 0, 0, 0, 0, 0, 0, 0, 0, 0, 0, 0, 0, 0, 0, 0, 0, 0, 0, 0, 0, 0, 0, 0, 0, 0, 0, 0, 0, 0, 0, 0, 0, 0, 0, 0, 0, 0, 0, 0, 0, 0, 0, 0, 0, 0, 0, 0, 0, 0, 0, 0, 0, 0, 0, 0, 0, 0, 0, 1, 8] : List UInt8)) (by decide) (by decide) (by decide +kernel) (by decide +kernel)]
 decide +kernel
theorem krb : rB (List.replicate 32 0) [97] = jO := by
 unfold rB hashB
 rw [kpx]
 rw [show l_px ++ [97] = l_ma from rfl, kh1]
 decide +kernel
theorem kgr : gB jO = kD := by
 have h := jG (f := 255) (n := 7181184326793992088570470973156240928892923053541374345874775889579607004469) (x := 57424469103247101692668843822703452406020131022418294163025224199466881445546) (y := 9325306609193551227202014907241585160928628658924949105388706877074100801655) (by decide +kernel) (by decide +kernel)
 unfold gB
 rw [show (leI jO).toNat = 7181184326793992088570470973156240928892923053541374345874775889579607004469 from by decide +kernel, h]
 decide +kernel
theorem kh2 : HH (l_mb) = l_hk := by
 unfold HH
 rw [Go.Sha.gU (pb := ([119, 80, 213, 221, 193, 50, 156, 219, 224, 181, 237, 117, 127, 0, 200, 234, 53, 171, 78, 23, 32, 208, 172, 199, 214, 54, 148, 81, 190, 239, 157, 20, 59, 106, 39, 188, 206, 182, 164, 45, 98, 163, 168, 208, 42, 111, 13, 115, 101, 50, 21, 119, 29, 226, 67, 166, 58, 192, 72, 161, 139, 89, 218, 41, 97, 128, 0, 0, 0, 0, 0, 0, 0, 0, 0, 0, 0, 0, 0, 0, 0, 0, 0, 0, 0, 0, 0, 0, 0, 0, 0, 0, 0, 0, 0, 0, 0, 0, 0, 0, 0, 0, 0, 0, 0, 0, 0, 0, 0, 0, 0, 0, 0, 0, 0, 0, 0, 0, 0, 0, 0, 0, 0, 0, 0, 0, 2, 8] : List UInt8)) (by decide) (by decide) (by decide +kernel) (by decide +kernel)]
 decide +kernel
theorem kh3 : HH (l_mc) = l_hk2 := by
 unfold HH
 rw [Go.Sha.gU (pb := ([119, 80, 213, 221, 193, 50, 156, 219, 224, 181, 237, 117, 127, 0, 200, 234, 53, 171, 78, 23, 32, 208, 172, 199, 214, 54, 148, 81, 190, 239, 157, 20, 59, 106, 39, 188, 206, 182, 164, 45, 98, 163, 168, 208, 42, 111, 13, 115, 101, 50, 21, 119, 29, 226, 67, 166, 58, 192, 72, 161, 139, 89, 218, 41, 98, 128, 0, 0, 0, 0, 0, 0, 0, 0, 0, 0, 0, 0, 0, 0, 0, 0, 0, 0, 0, 0, 0, 0, 0, 0, 0, 0, 0, 0, 0, 0, 0, 0, 0, 0, 0, 0, 0, 0, 0, 0, 0, 0, 0, 0, 0, 0, 0, 0, 0, 0, 0, 0, 0, 0, 0, 0, 0, 0, 0, 0, 2, 8] : List UInt8)) (by decide) (by decide) (by decide +kernel) (by decide +kernel)]
 decide +kernel
theorem khb (h : kD ++ ml ++ [97] = l_mb) : hashB (kD ++ ml ++ [97]) = l_kb := by unfold hashB; rw [h, kh2]; decide +kernel
theorem khc (h : kD ++ ml ++ [98] = l_mc) : hashB (kD ++ ml ++ [98]) = l_k2b := by unfold hashB; rw [h, kh3]; decide +kernel
theorem ksS : sgS (List.replicate 32 0) [97] = kE := by
 unfold sgS
 rw [krb, ksk, kpk, kgr, khb rfl]
 decide +kernel
theorem ksg : sgB (List.replicate 32 0) [97] = gB jO ++ kE := by unfold sgB; rw [krb, ksS]
theorem kgS : gB kE = l_SE := by
 have h := jG (f := 255) (n := 3227255830459625268894830962772692551469787206272442507272722259647462303349) (x := 35258448469812251618733143802017561846163754012480596429951757082148501261969) (y := 9366278698107413320606727411137311322727098759470078643615885528027801471576) (by decide +kernel) (by decide +kernel)
 unfold gB
 rw [show (leI kE).toNat = 3227255830459625268894830962772692551469787206272442507272722259647462303349 from by decide +kernel, h]
 decide +kernel
theorem kver : verE (pkB (List.replicate 32 0)) [98] (sgB (List.replicate 32 0) [97]) = 31 := by
 have hp : pkB (List.replicate 32 0) = gB l_s := by unfold pkB; rw [ksk]
 have ht : (gB jO ++ kE).take 32 = gB jO := List.take_left' (di _)
 have hd : (gB jO ++ kE).drop 32 = kE := List.drop_left' (di _)
 have hn := jG (f := 255) (n := 2341663124490739071794982550895394070877092220273328156446242133076425742861) (x := 4557965206765101388145606311865845007866192190068363813737493414857729726554) (y := 30930227302714699157948232353255103122122248679019080290177519767715154184404) (by decide +kernel) (by decide +kernel)
 have hv : verP (gB l_s) [98] (gB jO ++ kE) = (fN 4557965206765101388145606311865845007866192190068363813737493414857729726554, fN 30930227302714699157948232353255103122122248679019080290177519767715154184404) := by
   rw [verP_gB ht, kgr, kga, khc rfl, ← jv, show ((leI jO).toNat + (leI l_s).toNat * (leI l_k2b).toNat) % Go.Proofs.YtllmbkmghmmhfaaDoor.W.ordL = 2341663124490739071794982550895394070877092220273328156446242133076425742861 from by decide +kernel]
   exact hn
 rw [hp, ksg]
 unfold verE
 rw [if_neg (by rw [List.length_append, di, di]; decide), if_neg (by rw [(jV _).1]; decide), ht, hd, if_neg (by rw [(jV _).1]; decide +kernel), if_neg (by rw [kgS, hv]; decide +kernel)]
theorem kpub : (pkB (List.replicate 32 0)).length = 32 ∧ (pkB (List.replicate 32 0)).take 4 = [59, 106, 39, 188] := by rw [kpk]; decide +kernel
attribute [local irreducible] encB
end Go.Proofs.YtllmbkmghmmhfaaDoor.W
namespace Go.Eng
open Go
theorem kU (w : World) (a : Addr) (k : Nat) (q : Addr) : (w.freeze a k).cell? q = w.cell? q := by
 unfold World.freeze
 split
 · rfl
 · unfold World.cell?
   simp only [Array.getElem?_modify]
   by_cases h : a.block = q.block
   · rw [if_pos h]
     cases hc : w.heap[q.block]? with
     | none => rfl
     | some o =>
       cases o <;> rfl
   · rw [if_neg h]
theorem kF (w : World) (a : Addr) (k : Nat) : Keep [a.block] w (w.freeze a k) := by
 unfold World.freeze
 split
 · exact Keep.refl _ _
 · refine ⟨rfl, rfl, rfl, ?_, fun j hj hn => ?_⟩
   · show w.heap.size ≤ (w.heap.modify a.block _).size
     rw [Array.size_modify]; exact Nat.le_refl _
   · show (w.heap.modify a.block _)[j]? = w.heap[j]?
     rw [Array.getElem?_modify, if_neg (fun e => hn (by rw [e]; exact List.mem_singleton.2 rfl))]
theorem ma {w : World} {a : Addr} {k s m : Nat} {v : Value} {cs : List Value} (h : Rd w s v m cs) : Rd (w.freeze a k) s v m cs := by
 obtain ⟨A, c, h1, h2, h3, h4, h5, h6⟩ := h
 exact ⟨A, c, h1, h2, h3, h4, h5, fun b hb j u hj => by rw [kU]; exact h6 b hb j u hj⟩
section
variable {P : Program} {n : Nat} {f : Fr} {w : World} {ty : TypeId}
theorem d_cvm {t e : TypeId} {x : Operand} {v : Value} {m : Nat} {cs : List Value} (ht : P.underlying t = some (.slice e)) (he : P.underlying e = some (.int .u8)) (hx : f.ev x = some v) (hr : Rd w 1 v m cs) (hn : isNil v = false) :
   Does P n f w (.convert t t x) ty (fun v' w' => v' = v ∧ Rd w' 1 v m cs ∧ Keep (vblk v) w w' ∧ w'.heap.size = w.heap.size) := by
 intro a ha dst pos aft g K Q hK
 obtain ⟨A, c, rfl, _⟩ := id hr
 cases A with
 | none => cases hn
 | some b =>
   have key : ∃ w', (execOp a.eval ⟨dst, .convert t t x, ty, pos, aft, g⟩).run P w = .ok (.value (.slice (some b) m c)) w' ∧ Rd w' 1 (.slice (some b) m c) m cs ∧ Keep (vblk (.slice (some b) m c)) w w' ∧ w'.heap.size = w.heap.size := by
     cases hs : w.shape? b.block with
     | none =>
       refine ⟨w, ?_, hr, Keep.refl _ _, rfl⟩
       simp [execOp, ha.ev hx, convert, run_underlying ht, run_underlying he, markStringish, hs]
     | some q =>
       obtain ⟨qt, qn⟩ := q
       refine ⟨w.freeze ⟨b.block, qn, none⟩ 1, ?_, ma hr, kF w ⟨b.block, qn, none⟩ 1, ?_⟩
       · simp [execOp, ha.ev hx, convert, run_underlying ht, run_underlying he, markStringish, hs]
       · unfold World.freeze
         rw [if_neg (by decide)]
         exact Array.size_modify
   obtain ⟨w', h1, h2, h3, h4⟩ := key
   unfold Oper.wp
   rw [h1]
   exact hK _ _ ⟨rfl, h2, h3, h4⟩
end
end Go.Eng
namespace Go.Proofs.YtllmbkmghmmhfaaDoor.W
open Go Go.Eng Go.Byt
open Go.Fld Go.Ed
theorem dF (e : Int) (w : World) : Rets Tryd.prog 7 [.int .i64 e] w (fun r w' => r = .int .i64 e ∧ Keep [] w w') := by
 have hB : Keep [] w w := Keep.refl _ _
 refine a7 Tryd.func7 rfl (by decide) Tryd.ntmps7 rfl (fun fin _ hfin => aS (aR (oga rfl rfl (aT (aS (aR (ogm rfl rfl (oga rfl rfl (aT (bD hfin Tryd.results7 rfl ?_))))))))))
 exact ⟨rfl, hB⟩
theorem oK (v : Value) (w : World) (hT : Tabs w) (hv : RdB w v (List.replicate 32 0)) : Rets Tryd.prog 5 [v] w (fun r w' => ∃ u, r = .tuple #[u, .int .i64 0] ∧ OwnB w' w.heap.size u (pkB (List.replicate 32 0)) ∧ Keep [] w w') := by
  have h := jd v (List.replicate 32 0) w hT hv
  rw [show pkE (List.replicate 32 0) = 0 from if_pos (by decide), show pkR (List.replicate 32 0) = pkB (List.replicate 32 0) from if_pos (by decide)] at h
  exact h
theorem mn (v vt : Value) (w : World) (hT : Tabs w) (hv : RdB w v (List.replicate 32 0)) (hy : RdB w vt [97]) : Rets Tryd.prog 6 [v, vt] w (fun r w' => ∃ u, r = .tuple #[u, .int .i64 0] ∧ OwnB w' w.heap.size u (sgB (List.replicate 32 0) [97]) ∧ Keep [] w w') := by
  have h := i3 v vt (List.replicate 32 0) [97] w hT hv hy (by decide)
  rw [show sgE (List.replicate 32 0) = 0 from if_pos (by decide), show sgR (List.replicate 32 0) [97] = sgB (List.replicate 32 0) [97] from if_pos (by decide)] at h
  exact h
theorem oJ (va vb vc : Value) (w : World) (hT : Tabs w) (ha : RdB w va (pkB (List.replicate 32 0))) (hb : RdB w vb [98]) (hc : RdB w vc (sgB (List.replicate 32 0) [97])) : Rets Tryd.prog 8 [va, vb, vc] w (fun r w' => r = .int .i64 31 ∧ Keep [] w w') := by
  have h := gh va vb vc _ [98] _ w hT ha hb hc (by decide)
  rw [kver] at h
  exact h
theorem hC (w : World) (hT : Tabs w) : Rets Tryd.prog 9 [] w (fun r w' => r = .bool true ∧ Keep [] w w') := by
 have hB : Keep [] w w := Keep.refl _ _
 refine a7 Tryd.func9 rfl (by decide) Tryd.ntmps9 rfl (fun fin _ hfin => aS (aR (oga rfl rfl (aT (aS (aR (a9 (mu aB cZ rfl rfl (by omega) (by constructor <;> omega)) rfl ?_)))))))
 rintro v1 w1 ⟨o1, nn1, lb1, k1, z1⟩
 have go_v1 := fun x hx => (show w.heap.size ≤ x from by have h1 := (o1.blk x hx).1; have h2 := hB.size; omega)
 have gl_o1 := hB.size
 replace hB := hB.trans k1
 replace o1 : Own w1 _ 5 1 v1 32 [.int .u8 0, .int .u8 0, .int .u8 0, .int .u8 0, .int .u8 0, .int .u8 0, .int .u8 0, .int .u8 0, .int .u8 0, .int .u8 0, .int .u8 0, .int .u8 0, .int .u8 0, .int .u8 0, .int .u8 0, .int .u8 0, .int .u8 0, .int .u8 0, .int .u8 0, .int .u8 0, .int .u8 0, .int .u8 0, .int .u8 0, .int .u8 0, .int .u8 0, .int .u8 0, .int .u8 0, .int .u8 0, .int .u8 0, .int .u8 0, .int .u8 0, .int .u8 0] := o1
 replace o1 : OwnB w1 w.heap.size v1 (List.replicate 32 0) := by have e := o1.lo gl_o1; unfold OwnB; rw [List.length_replicate]; exact e
 refine oga rfl rfl (aT (aS (aR (ogm rfl rfl (a9 (aV (vs := [_]) rfl (oK _ _ (hT.pK hB) (by have e := o1.rd; exact e))) rfl ?_)))))
 rintro _ w2 ⟨v2, rfl, o2, k2⟩
 replace o1 := o1.pK k2
 replace hB := hB.trans k2
 refine ogm rfl rfl (aU (ar (vs := [_, _]) rfl rfl) rfl (aU (ar (vs := [_, _]) rfl rfl) rfl (oga rfl rfl (oga rfl rfl (aT (aS (aR (ogm rfl rfl ?_))))))))
 have ltz1 := fun x hx => (o1.blk x hx).2
 have ltz2 := fun x hx => (o2.blk x hx).2
 refine a9 (gS (m := 1) (xs := [.const (.int .u8 (97))]) (vs := [_]) aB cZ (by decide) rfl rfl rfl (by first | (simp; done) | (intro v hv; rw [List.mem_singleton] at hv; subst hv; rfl)) (by decide)) rfl ?_
 rintro v3 w3 ⟨o3, nn2, lb2, k3, z2⟩
 have gl_o3 := hB.size
 replace o1 := o1.pK k3
 replace o2 := o2.pK k3
 replace hB := hB.trans k3
 replace o3 : Own w3 _ _ 1 v3 1 (bv [97]) := o3
 refine a9 (d_cvm aB aK rfl o3.rd nn2) rfl ?_
 rintro _ w4 ⟨rfl, r15, k4, _⟩
 replace hB := hB.new k4 (fun x hx => .inl (Nat.le_trans gl_o3 (o3.blk x hx).1))
 replace o1 := o1.keep k4 (fun x hx hm => by have h1 := ltz1 x hx; have h2 := (o3.blk x hm).1; omega)
 replace o2 := o2.keep k4 (fun x hx hm => by have h1 := ltz2 x hx; have h2 := (o3.blk x hm).1; omega)
 refine a9 (aV (vs := [_, _]) rfl (mn _ _ _ (hT.pK hB) (by have e := o1.rd; exact e) ‹_›)) rfl ?_
 rintro _ w5 ⟨v4, rfl, o4, k5⟩
 replace o1 := o1.pK k5
 replace o2 := o2.pK k5
 replace r15 := r15.pK k5
 replace hB := hB.trans k5
 refine ogm rfl rfl (aU (ar (vs := [_, _]) rfl rfl) rfl (aU (ar (vs := [_, _]) rfl rfl) rfl (oga rfl rfl (oga rfl rfl (aT (aW [(2, _), (3, _), (4, _), (5, _)] ⟨rfl, rfl, rfl, rfl, trivial⟩ (aS (aR (ogm rfl rfl (a9 (aV (vs := [_]) rfl (dF _ _)) rfl ?_))))))))))
 rintro _ w6 ⟨rfl, k6⟩
 replace o1 := o1.pK k6
 replace o2 := o2.pK k6
 replace r15 := r15.pK k6
 replace o4 := o4.pK k6
 replace hB := hB.trans k6
 refine ogm rfl rfl (a9 (aV (vs := [_]) rfl (dF _ _)) rfl ?_)
 rintro _ w7 ⟨rfl, k7⟩
 replace o1 := o1.pK k7
 replace o2 := o2.pK k7
 replace r15 := r15.pK k7
 replace o4 := o4.pK k7
 replace hB := hB.trans k7
 refine aU (aq (j := 0) (an rfl rfl) (by decide)) rfl (aU (gR rfl rfl) rfl (ogm rfl rfl (bw (grdT rfl rfl rfl (by decide)) (ax rfl) rfl (bw (grdT rfl rfl rfl (by decide)) (bp aB rfl o2.rd) rfl (bw (grdT rfl rfl rfl (by decide)) (gR rfl rfl) rfl (aU (g6 rfl (by decide) rfl) rfl (ogm rfl rfl (bw (grdT rfl rfl rfl (decide_eq_true (by rw [kpub.1]; rfl))) (ax rfl) rfl ?_))))))))
 have r32 : RdB w7 (cut v2 0 4 1) ((pkB (List.replicate 32 0)).take 4) := by have e := (show RdB w7 v2 (pkB (List.replicate 32 0)) from o2.rd).cutB (l := 0) (hi := 4) (by decide) (by rw [kpub.1]; decide); rwa [List.drop_zero] at e
 refine bw (grdT rfl rfl rfl (decide_eq_true (by rw [kpub.1]; rfl))) (cM (v' := (cut v2 0 4 1)) (i0 aB cZ rfl o2.rd (.inl ⟨rfl, rfl⟩) (.inr ⟨_, _, rfl, rfl⟩) (by have h1 := o2.rd.vcap.1; have h2 := kpub.1; omega)) rfl) rfl (bw (grdT rfl rfl rfl (decide_eq_true (by rw [kpub.1]; rfl))) (g_str aB aK Tryd.underlying9 rfl (by first | assumption | exact Own.rd ‹_› | exact Rd.pK ‹_› hB | exact Own.rd (Own.pK ‹_› hB))) rfl (bw (grdT rfl rfl rfl (decide_eq_true (by rw [kpub.1]; rfl))) (g_eqs (a := (pkB (List.replicate 32 0)).take 4) (b := [59, 106, 39, 188]) rfl rfl) rfl (aU (g6 rfl (decide_eq_true (by rw [kpub.1]; rfl)) rfl) rfl (ogm rfl rfl (bw (grdT rfl rfl rfl (decide_eq_true kpub.2)) (ax rfl) rfl ?_)))))
 have ltz3 := fun x hx => (o1.blk x hx).2
 have ltz4 := fun x hx => (o2.blk x hx).2
 have ltz5 := fun x hx => (o4.blk x hx).2
 refine e7 (grdT rfl rfl rfl (decide_eq_true kpub.2)) (gS (m := 1) (xs := [.const (.int .u8 (98))]) (vs := [_]) aB cZ (by decide) rfl rfl rfl (by first | (simp; done) | (intro v hv; rw [List.mem_singleton] at hv; subst hv; rfl)) (by decide)) rfl ?_
 rintro v5 w8 ⟨o5, nn3, lb3, k8, z3⟩
 have gl_o5 := hB.size
 replace o1 := o1.pK k8
 replace o2 := o2.pK k8
 replace r15 := r15.pK k8
 replace o4 := o4.pK k8
 replace hB := hB.trans k8
 replace o5 : Own w8 _ _ 1 v5 1 (bv [98]) := o5
 refine e7 (grdT rfl rfl rfl (decide_eq_true kpub.2)) (d_cvm aB aK rfl o5.rd nn3) rfl ?_
 rintro _ w9 ⟨rfl, r39, k9, _⟩
 replace hB := hB.new k9 (fun x hx => .inl (Nat.le_trans gl_o5 (o5.blk x hx).1))
 replace o1 := o1.keep k9 (fun x hx hm => by have h1 := ltz3 x hx; have h2 := (o5.blk x hm).1; omega)
 replace o2 := o2.keep k9 (fun x hx hm => by have h1 := ltz4 x hx; have h2 := (o5.blk x hm).1; omega)
 replace o4 := o4.keep k9 (fun x hx hm => by have h1 := ltz5 x hx; have h2 := (o5.blk x hm).1; omega)
 refine bw (grdT rfl rfl rfl (decide_eq_true kpub.2)) (ax rfl) rfl (e7 (grdT rfl rfl rfl (decide_eq_true kpub.2)) (aV (vs := [_, _, _]) rfl (oJ _ _ _ _ (hT.pK hB) (by have e := o2.rd; exact e) ‹_› (by have e := o4.rd; exact e))) rfl ?_)
 rintro _ w10 ⟨rfl, k10⟩
 replace hB := hB.trans k10
 refine e7 (grdT rfl rfl rfl (decide_eq_true kpub.2)) (aV (vs := [_]) rfl (dF _ _)) rfl ?_
 rintro _ w11 ⟨rfl, k11⟩
 replace hB := hB.trans k11
 refine bw (grdT rfl rfl rfl (decide_eq_true kpub.2)) (gR rfl rfl) rfl (aU (g6 rfl (decide_eq_true kpub.2) rfl) rfl (oga rfl rfl (aT (aW [(0, _)] ⟨rfl, trivial⟩ (bD hfin Tryd.results9 rfl ?_)))))
 exact ⟨rfl, hB⟩
end Go.Proofs.YtllmbkmghmmhfaaDoor.W
set_option maxRecDepth 100000
namespace Go.Proofs.YtllmbkmghmmhfaaDoor.W
open Go Go.Eng Go.Byt Go.Fld Go.Ed Go.Nt
theorem prL1 : Pr 1257559732178653 := gq (q := 1224481) (a := 2) (q' := 531581) (a' := 2) (by decide) (by decide) (fF 1107 (by decide) (by decide +kernel) (by decide)) (by decide +kernel) (fF 730 (by decide) (by decide +kernel) (by decide)) (by decide +kernel) (by decide) (by decide)
theorem prL2 : Pr 4434155615661930479 := fE (q := 1257559732178653) (a := 2) (by decide) (by decide) prL1 (by decide +kernel) (by decide)
theorem prL3 : Pr 172054593956031949258510691 := fE (q := 4434155615661930479) (a := 2) (by decide) (by decide) prL2 (by decide +kernel) (by decide)
theorem prL4 : Pr 19757330305831588566944191468367130476339 := fE (q := 172054593956031949258510691) (a := 2) (by decide) (by decide) prL3 (by decide +kernel) (by decide)
theorem prL5 : Pr 276602624281642239937218680557139826668747 := fE (q := 19757330305831588566944191468367130476339) (a := 2) (by decide) (by decide) prL4 (by decide +kernel) (by decide)
theorem prL : Pr ordL := fE (q := 276602624281642239937218680557139826668747) (a := 2) (by decide) (by decide) prL5 (by decide +kernel) (by decide)
theorem nk : ∀ (m k : Nat), pmul m basePt = zero → pmul k basePt = zero → pmul (Nat.gcd m k) basePt = zero := by
 intro m k
 induction m, k using Nat.gcd.induction with
 | H0 n => intro _ h; rwa [Nat.gcd_zero_left]
 | H1 m n hm ih =>
   intro h1 h2
   rw [Nat.gcd_rec]
   refine ih ?_ h1
   rw [← Nat.div_add_mod n m, dE bt, ef bt, h1, ic, bC] at h2
   exact h2
theorem base_ne : basePt ≠ zero := by decide +kernel
theorem pmul_ne {k : Nat} (h0 : 0 < k) (h1 : k < ordL) : pmul k basePt ≠ zero := by
 intro h
 have hc : Nat.gcd ordL k = 1 := prL.coprime (fun hd => by have := Nat.le_of_dvd h0 hd; omega)
 have := nk ordL k np h
 rw [hc, ju] at this
 exact base_ne this
theorem l9 {m n : Nat} (hn : n < ordL) (hle : m ≤ n) (h : pmul m basePt = pmul n basePt) : m = n := by
 apply Classical.byContradiction
 intro hc
 refine pmul_ne (k := n - m) (by omega) (by omega) ?_
 have e := dE bt m (n - m)
 rw [show m + (n - m) = n by omega, ← h] at e
 have om := cV bt m
 have e2 : padd (padd (pmul m basePt) (pneg (pmul m basePt))) (pmul (n - m) basePt) = padd (pmul m basePt) (pneg (pmul m basePt)) := by
   rw [ie (pmul m basePt) (pneg (pmul m basePt)), gt (nu om) om (cV bt _), ← e]
 rw [add_neg om, bC] at e2
 exact e2
theorem nj {m n : Nat} (hm : m < ordL) (hn : n < ordL) (h : pmul m basePt = pmul n basePt) : m = n := by
 rcases Nat.le_total m n with hle | hle
 · exact l9 hn hle h
 · exact (l9 hm hle h.symm).symm
theorem og {a b : Pt} (ha : OnP a) (hb : OnP b) (h : encB a.1 a.2 = encB b.1 b.2) : a = b := by
 obtain ⟨_, x1, y1⟩ := fg ha
 obtain ⟨_, x2, y2⟩ := fg hb
 rw [h] at x1 y1
 exact Prod.ext (x1.symm.trans x2) (y1.symm.trans y2)
theorem dP_enc {a : Pt} (h : OnP a) : dP (encB a.1 a.2) = a := by
 obtain ⟨_, x, y⟩ := fg h
 unfold dP
 exact Prod.ext x y
theorem gD (n : List UInt8) : decE (gB n) = 0 ∧ dP (gB n) = pmul (leI n).toNat basePt := by
 unfold gB
 exact ⟨(fg (cV bt _)).1, dP_enc (cV bt _)⟩
theorem gz (xs : List UInt8) : 0 ≤ leI xs := (d8 xs).1
theorem gk (s t : List UInt8) : (sgB s t).take 32 = gB (rB s t) := by
 unfold sgB
 rw [List.take_append_of_le_length (by rw [di]; decide), List.take_of_length_le (by rw [di]; decide)]
theorem gl (s t : List UInt8) : (sgB s t).drop 32 = sgS s t := by
 unfold sgB
 exact List.drop_left' (di _)
theorem l3 (s t : List UInt8) : leI (sgS s t) = (leI (rB s t) + leI (hashB (gB (rB s t) ++ pkB s ++ t)) * leI (skB s)) % 7237005577332262213973186563042994240857116359379907606001950938285454250989 := by
 unfold sgS
 generalize leI (rB s t) + leI (hashB (gB (rB s t) ++ pkB s ++ t)) * leI (skB s) = q
 have h1 := Int.emod_nonneg q (show (7237005577332262213973186563042994240857116359379907606001950938285454250989 : Int) ≠ 0 by decide)
 have h2 := Int.emod_lt_of_pos q (show (0 : Int) < 7237005577332262213973186563042994240857116359379907606001950938285454250989 by decide)
 refine fY 32 _ h1 (Int.lt_trans h2 (by decide +kernel))
theorem n6 (s t : List UInt8) : leI (sgS s t) < 7237005577332262213973186563042994240857116359379907606001950938285454250989 := by
 rw [l3]
 exact Int.emod_lt_of_pos _ (by decide)
theorem mK {q : Int} (h : 0 ≤ q) : (q % 7237005577332262213973186563042994240857116359379907606001950938285454250989).toNat = q.toNat % ordL := by
 obtain ⟨n, rfl⟩ := Int.eq_ofNat_of_zero_le h
 unfold ordL
 rw [show (7237005577332262213973186563042994240857116359379907606001950938285454250989 : Int) = ((7237005577332262213973186563042994240857116359379907606001950938285454250989 : Nat) : Int) from rfl, ← Int.natCast_emod, Int.toNat_natCast, Int.toNat_natCast]
theorem sg_eq (s t : List UInt8) : gB (sgS s t) = encB (verP (pkB s) t (sgB s t)).1 (verP (pkB s) t (sgB s t)).2 ∧ OnP (verP (pkB s) t (sgB s t)) := by
 have hv : verP (pkB s) t (sgB s t) = pmul (leI (sgS s t)).toNat basePt := by
   unfold verP
   rw [gk, (gD _).2, show dP (pkB s) = pmul (leI (skB s)).toNat basePt from (gD _).2, l3, ← ef bt, ← dE bt]
   have n1 := gz (rB s t)
   have n2 := gz (skB s)
   have n3 := gz (hashB (gB (rB s t) ++ pkB s ++ t))
   generalize leI (rB s t) = a at *
   generalize leI (skB s) = b at *
   generalize leI (hashB (gB (rB s t) ++ pkB s ++ t)) = c at *
   have n4 := Int.mul_nonneg n3 n2
   rw [mK (by omega), jv, Int.toNat_add n1 n4, Int.toNat_mul n3 n2, Nat.mul_comm c.toNat]
 rw [hv]
 refine ⟨?_, cV bt _⟩
 unfold gB
 rfl
theorem hold_ok (s t : List UInt8) : verE (pkB s) t (sgB s t) = 0 := by
 unfold verE
 rw [if_neg (by rw [gW, bj]; decide), if_neg (by rw [show decE (pkB s) = 0 from (gD _).1]; decide), if_neg, gl, if_pos (sg_eq s t).1]
 rw [gk, gl, (gD _).1]
 have := n6 s t
 simp [this]
theorem hold_no (s t b : List UInt8) (hl : b.length = 64) (ht : b.take 32 = (sgB s t).take 32) (hne : b ≠ sgB s t) : verE (pkB s) t b = 31 := by
 unfold verE
 rw [if_neg (by rw [gW, hl]; decide), if_neg (by rw [show decE (pkB s) = 0 from (gD _).1]; decide)]
 by_cases hc : leI (b.drop 32) < 7237005577332262213973186563042994240857116359379907606001950938285454250989
 · rw [if_neg (by rw [ht, gk, (gD _).1]; simp [hc]), if_neg]
   intro he
   have hv : verP (pkB s) t b = verP (pkB s) t (sgB s t) := by unfold verP; rw [ht]
   rw [hv, ← (sg_eq s t).1] at he
   unfold gB at he
   have hp := og (cV bt _) (cV bt _) he
   have n1 := gz (b.drop 32)
   have n2 := gz (sgS s t)
   have l2 := n6 s t
   have e := nj (by unfold ordL; omega) (by unfold ordL; omega) hp
   have e2 : leI (b.drop 32) = leI (sgS s t) := by omega
   refine hne ?_
   have d1 := jN (b.drop 32)
   have d2 := jN (sgS s t)
   have le1 : (b.drop 32).length = 32 := by rw [List.length_drop, hl]
   have le2 : (sgS s t).length = 32 := by unfold sgS; rw [dM]
   rw [le1, e2] at d1
   rw [le2, d1] at d2
   rw [← List.take_append_drop 32 b, ht, d2, ← gl, List.take_append_drop]
 · rw [if_pos (.inr hc)]
end Go.Proofs.YtllmbkmghmmhfaaDoor.W
namespace Go.Eng
open Go Go.IntWalk Go.Sha
theorem nL (v : BitVec 8) : IntKind.u8.wrap (v.toNat : Int) = v.toNat := IntWalk.u8_in _ (by have := v.isLt; omega)
theorem xor8 (x y : UInt8) : bits .xor .u8 (x.toNat : Int) (y.toNat : Int) = ((x ^^^ y).toNat : Int) := by
 have h : ∀ v : BitVec 8, bits .xor .u8 (x.toNat : Int) (y.toNat : Int) = ((BitVec.ofInt 8 (x.toNat : Int) ^^^ BitVec.ofInt 8 (y.toNat : Int)).toNat : Int) := fun _ => nL _
 rw [h 0, BitVec.ofInt_natCast, BitVec.ofInt_natCast, UInt8.toNat_xor, BitVec.toNat_xor, BitVec.toNat_ofNat, BitVec.toNat_ofNat, Nat.mod_eq_of_lt x.toNat_lt, Nat.mod_eq_of_lt y.toNat_lt]
theorem kN (xs : List UInt8) (j : Nat) : gb xs (j : Int) = ((xs.getD j 0).toNat : Int) := by unfold gb; rw [Int.toNat_natCast]
theorem set_xor {xs : List UInt8} {j : Nat} {b : UInt8} (hj : j < xs.length) (hb : b ≠ 0) : xs.set j (xs.getD j 0 ^^^ b) ≠ xs := by
 intro h
 have e := congrArg (fun l => l[j]?) h
 simp only [List.getElem?_set_self hj] at e
 rw [List.getElem?_eq_getElem hj, List.getD_eq_getElem?_getD, List.getElem?_eq_getElem hj] at e
 simp only [Option.getD_some, Option.some.injEq] at e
 have e2 : xs[j] ^^^ (xs[j] ^^^ b) = 0 := by rw [e]; exact UInt8.xor_self
 rw [← UInt8.xor_assoc, UInt8.xor_self, UInt8.zero_xor] at e2
 exact hb e2
theorem n7 {xs : List UInt8} {j k : Nat} {b : UInt8} (h : k ≤ j) : (xs.set j b).take k = xs.take k := by
 rw [List.take_set_of_le h]
theorem nR (k : Int) : -32 < k.tmod 32 ∧ k.tmod 32 < 32 :=
 ⟨Int.lt_tmod_of_pos k (by decide), Int.tmod_lt_of_pos k (by decide)⟩
end Go.Eng
namespace Go.Proofs.YtllmbkmghmmhfaaDoor.W
open Go Go.Eng Go.Byt
open Go.Fld Go.Ed
attribute [local irreducible] encB
def fit (xs : List UInt8) : List UInt8 := xs.take (min xs.length 32) ++ List.replicate (32 - min xs.length 32) 0
theorem ff (xs : List UInt8) : (fit xs).length = 32 := by unfold fit; rw [List.length_append, List.length_take, List.length_replicate]; omega
theorem fit_eq (xs : List UInt8) : (bv xs).take (min xs.length 32) ++ (List.replicate 32 (Value.int .u8 0)).drop (min xs.length 32) = bv (fit xs) := by
 unfold fit
 rw [db, g7, List.drop_replicate, ← pC]
theorem fit_any (v : Value) (xs : List UInt8) (w : World) (hv : RdB w v xs) : Rets Tryd.prog 4 [v] w (fun r w' => Own w' w.heap.size 5 1 r 32 (bv (fit xs)) ∧ Keep [] w w') := by
 have hB : Keep [] w w := Keep.refl _ _
 refine a7 Tryd.func4 rfl (by decide) Tryd.ntmps4 rfl (fun fin _ hfin => aS (aR (oga rfl rfl (aT (aS (aR (a9 (mu aB cZ rfl rfl (by omega) (by constructor <;> omega)) rfl ?_)))))))
 rintro q w1 ⟨o1, _, hvb, k1, _⟩
 have o2 : Own w1 w.heap.size 5 1 q 32 (List.replicate 32 (.int .u8 0)) := o1.lo hB.size
 clear o1
 replace hv := hv.pK k1
 replace hB := hB.trans k1
 refine oga rfl rfl (aT (aS (aR (ogm rfl rfl (ogm rfl rfl (a9 (d_cp aB cZ rfl o2 rfl hv (iQ _) rfl) rfl ?_))))))
 rintro _ w2 ⟨rfl, o3, k2, z2⟩
 replace hB := hB.new k2 (fun x hx => .inl (o2.blk x hx).1)
 rw [fit_eq] at o3
 refine aT (aS (aR (ogm rfl rfl (oga rfl rfl (aT (bD hfin Tryd.results4 rfl ?_))))))
 exact ⟨o3, hB⟩
theorem kQ (v : Value) (xs : List UInt8) (w : World) (hv : RdB w v xs) : Rets Tryd.prog 4 [v] w (fun r w' => OwnB w' w.heap.size r (fit xs) ∧ Keep [] w w') := (fit_any v xs w hv).mono fun r w' ⟨h, k⟩ => ⟨by unfold OwnB; rw [ff]; exact h, k⟩
theorem kJ (v : Value) (xs : List UInt8) (w : World) (hT : Tabs w) (hv : RdB w v xs) (hx : xs.length = 32) : Rets Tryd.prog 5 [v] w (fun r w' => ∃ u, r = .tuple #[u, .int .i64 0] ∧ OwnB w' w.heap.size u (pkB xs) ∧ Keep [] w w') := by
  have h := jd v xs w hT hv
  rw [show pkE xs = 0 from if_pos hx, show pkR xs = pkB xs from if_pos hx] at h
  exact h
theorem il (v vt : Value) (xs ys : List UInt8) (w : World) (hT : Tabs w) (hv : RdB w v xs) (hy : RdB w vt ys) (hx : xs.length = 32) (hyl : ys.length ≤ 140737488351232) : Rets Tryd.prog 6 [v, vt] w (fun r w' => ∃ u, r = .tuple #[u, .int .i64 0] ∧ OwnB w' w.heap.size u (sgB xs ys) ∧ Keep [] w w') := by
  have h := i3 v vt xs ys w hT hv hy hyl
  rw [show sgE xs = 0 from if_pos hx, show sgR xs ys = sgB xs ys from if_pos hx] at h
  exact h
theorem kH (va vb vc : Value) (xs ys : List UInt8) (w : World) (hT : Tabs w) (ha : RdB w va (pkB xs)) (hb : RdB w vb ys) (hc : RdB w vc (sgB xs ys)) (hyl : ys.length ≤ 140737488351232) : Rets Tryd.prog 8 [va, vb, vc] w (fun r w' => r = .int .i64 0 ∧ Keep [] w w') := by
  have h := gh va vb vc _ ys _ w hT ha hb hc hyl
  rw [hold_ok] at h
  exact h
def tB (s t : List UInt8) (j : Nat) (b : UInt8) : List UInt8 := (sgB s t).set j ((sgB s t).getD j 0 ^^^ b)
theorem tB_len (s t : List UInt8) (j : Nat) (b : UInt8) : (tB s t j b).length = 64 := by unfold tB; rw [List.length_set, bj]
theorem hver_no (va vb vc : Value) (xs ys : List UInt8) (j : Nat) (b : UInt8) (w : World) (hT : Tabs w) (ha : RdB w va (pkB xs)) (hb : RdB w vb ys) (hc : RdB w vc (tB xs ys j b)) (hyl : ys.length ≤ 140737488351232) (hj0 : 32 ≤ j) (hj1 : j < 64) (hne : b ≠ 0) : Rets Tryd.prog 8 [va, vb, vc] w (fun r w' => r = .int .i64 31 ∧ Keep [] w w') := by
  have h := gh va vb vc _ ys _ w hT ha hb hc hyl
  rw [hold_no xs ys _ (tB_len xs ys j b) (n7 hj0) (set_xor (by rw [bj]; exact hj1) hne)] at h
  exact h
theorem da {b : UInt8} (h : (b.toNat : Int) = 0) : b = 0 := UInt8.toNat_inj.1 (by simpa using h)
theorem ji (v vt : Value) (n : Int) (b : UInt8) (xs ys : List UInt8) (w : World) (hT : Tabs w) (hv : RdB w v xs) (hy : RdB w vt ys) (hx : xs.length ≤ 140737488351232) (hyl : ys.length ≤ 140737488351232) (hne : b ≠ 0) : Rets Tryd.prog 3 [v, vt, .int .i64 n, .int .u8 (b.toNat : Int)] w (fun r w' => r = .bool true ∧ Keep [] w w') := by
 have hB : Keep [] w w := Keep.refl _ _
 refine a7 Tryd.func3 rfl (by decide) Tryd.ntmps3 rfl (fun fin _ hfin => aS (aR (oga rfl rfl (aT (aS (aR (ogm rfl rfl (a9 (aV (vs := [_]) rfl (kQ _ xs _ (hv.pK hB))) rfl ?_))))))))
 rintro v1 w1 ⟨o1, k1⟩
 replace hB := hB.trans k1
 refine oga rfl rfl (aT (aS (aR (ogm rfl rfl (a9 (aV (vs := [_]) rfl (kJ _ (fit xs) _ (hT.pK hB) o1.rd (ff _))) rfl ?_)))))
 rintro _ w2 ⟨v2, rfl, o2, k2⟩
 replace o1 := o1.pK k2
 replace hB := hB.trans k2
 refine ogm rfl rfl (aU (ar (vs := [_, _]) rfl rfl) rfl (aU (ar (vs := [_, _]) rfl rfl) rfl (oga rfl rfl (oga rfl rfl (aT (aS (aR (ogm rfl rfl (ogm rfl rfl (a9 (aV (vs := [_, _]) rfl (il _ _ (fit xs) ys _ (hT.pK hB) o1.rd (hy.pK hB) (ff _) hyl)) rfl ?_))))))))))
 rintro _ w3 ⟨v3, rfl, o3, k3⟩
 replace o2 := o2.pK k3
 replace hB := hB.trans k3
 refine ogm rfl rfl (aU (ar (vs := [_, _]) rfl rfl) rfl (aU (ar (vs := [_, _]) rfl rfl) rfl (oga rfl rfl (oga rfl rfl (aT (aW [(1, _), (2, _), (3, _), (9, _), (10, _), (11, _), (12, _)] ⟨rfl, rfl, rfl, rfl, rfl, rfl, rfl, trivial⟩ (aS (aS (aR (ogm rfl rfl (a9 (aV (vs := [_]) rfl (dF _ _)) rfl ?_)))))))))))
 rintro _ w4 ⟨rfl, k4⟩
 replace o2 := o2.pK k4
 replace o3 := o3.pK k4
 replace hB := hB.trans k4
 refine ogm rfl rfl (a9 (aV (vs := [_]) rfl (dF _ _)) rfl ?_)
 rintro _ w5 ⟨rfl, k5⟩
 replace o2 := o2.pK k5
 replace o3 := o3.pK k5
 replace hB := hB.trans k5
 refine aU (aq (j := 0) (an rfl rfl) (by decide)) rfl (aU (dU rfl rfl) rfl (ogm rfl rfl (bw (grdT rfl rfl rfl (by decide)) (ax rfl) rfl (bw (grdT rfl rfl rfl (by decide)) (bp aB rfl o3.rd) rfl (bw (grdT rfl rfl rfl (by decide)) (dU rfl rfl) rfl (aU (dd rfl (by decide) rfl) rfl (ogm rfl rfl (bw (grdT rfl rfl rfl (decide_eq_false (fun h => h (by rw [bj]; rfl)))) (ax rfl) rfl (bw (grdT rfl rfl rfl (decide_eq_false (fun h => h (by rw [bj]; rfl)))) (ax rfl) rfl (bw (grdT rfl rfl rfl (decide_eq_false (fun h => h (by rw [bj]; rfl)))) (ax rfl) rfl ?_))))))))))
 refine e7 (grdT rfl rfl rfl (decide_eq_false (fun h => h (by rw [bj]; rfl)))) (aV (vs := [_, _, _]) rfl (kH _ _ _ (fit xs) ys _ (hT.pK hB) o2.rd (hy.pK hB) o3.rd hyl)) rfl ?_
 rintro _ w6 ⟨rfl, k6⟩
 replace o2 := o2.pK k6
 replace o3 := o3.pK k6
 replace hB := hB.trans k6
 refine e7 (grdT rfl rfl rfl (decide_eq_false (fun h => h (by rw [bj]; rfl)))) (aV (vs := [_]) rfl (dF _ _)) rfl ?_
 rintro _ w7 ⟨rfl, k7⟩
 replace o2 := o2.pK k7
 replace o3 := o3.pK k7
 replace hB := hB.trans k7
 refine bw (grdT rfl rfl rfl (decide_eq_false (fun h => h (by rw [bj]; rfl)))) (dU rfl rfl) rfl (aU (dd rfl (decide_eq_false (fun h => h (by rw [bj]; rfl))) rfl) rfl (ogm rfl rfl (e7 (grdT rfl rfl rfl (by decide)) (aV (vs := []) rfl (hC _ (hT.pK hB))) rfl ?_)))
 rintro _ w8 ⟨rfl, k8⟩
 replace o2 := o2.pK k8
 replace o3 := o3.pK k8
 replace hB := hB.trans k8
 refine bw (grdT rfl rfl rfl (by decide)) (iq rfl) rfl (aU (dd rfl (by decide) rfl) rfl (aT (aW [(1, _), (2, _), (3, _), (9, _), (11, _), (49, _)] ⟨rfl, rfl, rfl, rfl, rfl, rfl, trivial⟩ (fS rfl ((by decide)) (a8 (aS (aR ?_)))))))
 have hsl := bj (fit xs) ys
 have ltz2 := fun x hx => (o2.blk x hx).2
 refine a9 (gS (m := 0) (xs := []) (vs := []) aB cZ (by decide) rfl rfl rfl (by first | (simp; done) | (intro v hv; rw [List.mem_singleton] at hv; subst hv; rfl)) (by decide)) rfl ?_
 rintro v4 w9 ⟨o4, nn1, lb1, k9, z1⟩
 have gl_o4 := hB.size
 replace o2 := o2.pK k9
 replace o3 := o3.pK k9
 replace hB := hB.trans k9
 replace o4 : Own w9 _ _ 1 v4 0 (bv []) := o4
 refine ogm rfl rfl (a9 (eW (xs := []) (ys := sgB (fit xs) ys) aB cZ rfl (show Own _ _ _ 1 _ 0 (bv []) from o4) rfl o3.rd (by rw [hsl]; decide) (by have := hB.size; omega)) rfl ?_)
 rintro v5 w10 ⟨o5, k10, lb2, _⟩
 replace hB := hB.new k10 (fun x hx => .inl (Nat.le_trans gl_o4 (o4.blk x hx).1))
 replace o2 := o2.keep k10 (fun x hx hm => by have h1 := ltz2 x hx; have h2 := (o4.blk x hm).1; omega)
 replace o5 : OwnB w10 w8.heap.size v5 (sgB (fit xs) ys) := by have e := o5; rw [List.nil_append, Nat.zero_add] at e; exact e
 refine oga rfl rfl (aT (aS (aR (ogm rfl rfl (aU (oP rfl rfl (by decide)) rfl ?_)))))
 have htm := nR n
 refine aU (cI rfl rfl (by omega)) rfl (aU (e9 rfl rfl ⟨by omega, by decide⟩) rfl ?_)
 obtain ⟨j, hj0, hj1, hj⟩ : ∃ j : Nat, 32 ≤ j ∧ j < 64 ∧ 32 + (n.tmod 32 + 32) % 32 = (j : Int) := ⟨(32 + (n.tmod 32 + 32) % 32).toNat, by omega, by omega, by omega⟩
 refine aU (cM (v' := .int .i64 (j : Int)) (cI rfl rfl (by omega)) (by rw [← hj])) rfl (oga rfl rfl (aT (aW [(1, _), (2, _), (3, _), (9, _), (13, _)] ⟨rfl, rfl, rfl, rfl, rfl, trivial⟩ (aS (aR (ogm rfl rfl (ogm rfl rfl (ogm rfl rfl (ogm rfl rfl (aU (dV aB cZ rfl o5.rd rfl (by rw [bj]; omega)) rfl (aU (cM (v' := .int .u8 (((sgB (fit xs) ys).getD j 0).toNat : Int)) (d7 j4 rfl o5.rd (by rw [bj]; omega)) (by rw [kN])) rfl (ogm rfl rfl (aU (cM (v' := .int .u8 (((sgB (fit xs) ys).getD j 0 ^^^ b).toNat : Int)) (oO rfl rfl) (by rw [xor8])) rfl (aU (dV aB cZ rfl o5.rd rfl (by rw [bj]; omega)) rfl (a6 (lx (j := j) ((sgB (fit xs) ys).getD j 0 ^^^ b) cZ (by rw [show ea v5 j = ea v5 ((j : Int).toNat * 1) from by rw [Int.toNat_natCast, Nat.mul_one]]; rfl) rfl rfl o5 (by rw [bj]; exact hj1)) ?_)))))))))))))))
 rintro _ w11 ⟨ot, k11, _⟩
 replace hB := hB.new k11 (fun x hx => .inl (Nat.le_trans gl_o4 (o5.blk x hx).1))
 replace o2 := o2.keep k11 (fun x hx hm => by have h1 := ltz2 x hx; have h2 := (o5.blk x hm).1; omega)
 refine aT (aW [(1, _), (3, _), (9, _), (13, _)] ⟨rfl, rfl, rfl, rfl, trivial⟩ (aS (aR (ogm rfl rfl (aU (gR rfl rfl) rfl (ogm rfl rfl (bw (grdT rfl rfl rfl (decide_eq_false (by intro h; exact hne (da h)))) (ax rfl) rfl (bw (grdT rfl rfl rfl (decide_eq_false (by intro h; exact hne (da h)))) (ax rfl) rfl (bw (grdT rfl rfl rfl (decide_eq_false (by intro h; exact hne (da h)))) (ax rfl) rfl (e7 (grdT rfl rfl rfl (decide_eq_false (by intro h; exact hne (da h)))) (aV (vs := [_, _, _]) rfl (hver_no _ _ _ (fit xs) ys j b _ (hT.pK hB) o2.rd (hy.pK hB) ot.rd hyl hj0 hj1 hne)) rfl ?_))))))))))
 rintro _ w12 ⟨rfl, k12⟩
 replace ot := ot.pK k12
 replace hB := hB.trans k12
 refine e7 (grdT rfl rfl rfl (decide_eq_false (by intro h; exact hne (da h)))) (aV (vs := [_]) rfl (dF _ _)) rfl ?_
 rintro _ w13 ⟨rfl, k13⟩
 replace ot := ot.pK k13
 replace hB := hB.trans k13
 refine bw (grdT rfl rfl rfl (decide_eq_false (by intro h; exact hne (da h)))) (gR rfl rfl) rfl (aU (dd rfl (decide_eq_false (by intro h; exact hne (da h))) rfl) rfl (oga rfl rfl (aT (aW [(8, _)] ⟨rfl, trivial⟩ (bD hfin Tryd.results3 rfl ?_)))))
 exact ⟨rfl, hB⟩
theorem jh (v vt : Value) (n : Int) (b : UInt8) (xs ys : List UInt8) (w : World) (hT : Tabs w) (hv : RdB w v xs) (hy : RdB w vt ys) (hx : xs.length ≤ 140737488351232) (hyl : ys.length ≤ 140737488351232) (hne : b = 0) : Rets Tryd.prog 3 [v, vt, .int .i64 n, .int .u8 (b.toNat : Int)] w (fun r w' => r = .bool true ∧ Keep [] w w') := by
 have hB : Keep [] w w := Keep.refl _ _
 refine a7 Tryd.func3 rfl (by decide) Tryd.ntmps3 rfl (fun fin _ hfin => aS (aR (oga rfl rfl (aT (aS (aR (ogm rfl rfl (a9 (aV (vs := [_]) rfl (kQ _ xs _ (hv.pK hB))) rfl ?_))))))))
 rintro v1 w1 ⟨o1, k1⟩
 replace hB := hB.trans k1
 refine oga rfl rfl (aT (aS (aR (ogm rfl rfl (a9 (aV (vs := [_]) rfl (kJ _ (fit xs) _ (hT.pK hB) o1.rd (ff _))) rfl ?_)))))
 rintro _ w2 ⟨v2, rfl, o2, k2⟩
 replace o1 := o1.pK k2
 replace hB := hB.trans k2
 refine ogm rfl rfl (aU (ar (vs := [_, _]) rfl rfl) rfl (aU (ar (vs := [_, _]) rfl rfl) rfl (oga rfl rfl (oga rfl rfl (aT (aS (aR (ogm rfl rfl (ogm rfl rfl (a9 (aV (vs := [_, _]) rfl (il _ _ (fit xs) ys _ (hT.pK hB) o1.rd (hy.pK hB) (ff _) hyl)) rfl ?_))))))))))
 rintro _ w3 ⟨v3, rfl, o3, k3⟩
 replace o2 := o2.pK k3
 replace hB := hB.trans k3
 refine ogm rfl rfl (aU (ar (vs := [_, _]) rfl rfl) rfl (aU (ar (vs := [_, _]) rfl rfl) rfl (oga rfl rfl (oga rfl rfl (aT (aW [(1, _), (2, _), (3, _), (9, _), (10, _), (11, _), (12, _)] ⟨rfl, rfl, rfl, rfl, rfl, rfl, rfl, trivial⟩ (aS (aS (aR (ogm rfl rfl (a9 (aV (vs := [_]) rfl (dF _ _)) rfl ?_)))))))))))
 rintro _ w4 ⟨rfl, k4⟩
 replace o2 := o2.pK k4
 replace o3 := o3.pK k4
 replace hB := hB.trans k4
 refine ogm rfl rfl (a9 (aV (vs := [_]) rfl (dF _ _)) rfl ?_)
 rintro _ w5 ⟨rfl, k5⟩
 replace o2 := o2.pK k5
 replace o3 := o3.pK k5
 replace hB := hB.trans k5
 refine aU (aq (j := 0) (an rfl rfl) (by decide)) rfl (aU (dU rfl rfl) rfl (ogm rfl rfl (bw (grdT rfl rfl rfl (by decide)) (ax rfl) rfl (bw (grdT rfl rfl rfl (by decide)) (bp aB rfl o3.rd) rfl (bw (grdT rfl rfl rfl (by decide)) (dU rfl rfl) rfl (aU (dd rfl (by decide) rfl) rfl (ogm rfl rfl (bw (grdT rfl rfl rfl (decide_eq_false (fun h => h (by rw [bj]; rfl)))) (ax rfl) rfl (bw (grdT rfl rfl rfl (decide_eq_false (fun h => h (by rw [bj]; rfl)))) (ax rfl) rfl (bw (grdT rfl rfl rfl (decide_eq_false (fun h => h (by rw [bj]; rfl)))) (ax rfl) rfl ?_))))))))))
 refine e7 (grdT rfl rfl rfl (decide_eq_false (fun h => h (by rw [bj]; rfl)))) (aV (vs := [_, _, _]) rfl (kH _ _ _ (fit xs) ys _ (hT.pK hB) o2.rd (hy.pK hB) o3.rd hyl)) rfl ?_
 rintro _ w6 ⟨rfl, k6⟩
 replace o3 := o3.pK k6
 replace hB := hB.trans k6
 refine e7 (grdT rfl rfl rfl (decide_eq_false (fun h => h (by rw [bj]; rfl)))) (aV (vs := [_]) rfl (dF _ _)) rfl ?_
 rintro _ w7 ⟨rfl, k7⟩
 replace o3 := o3.pK k7
 replace hB := hB.trans k7
 refine bw (grdT rfl rfl rfl (decide_eq_false (fun h => h (by rw [bj]; rfl)))) (dU rfl rfl) rfl (aU (dd rfl (decide_eq_false (fun h => h (by rw [bj]; rfl))) rfl) rfl (ogm rfl rfl (e7 (grdT rfl rfl rfl (by decide)) (aV (vs := []) rfl (hC _ (hT.pK hB))) rfl ?_)))
 rintro _ w8 ⟨rfl, k8⟩
 replace o3 := o3.pK k8
 replace hB := hB.trans k8
 refine bw (grdT rfl rfl rfl (by decide)) (iq rfl) rfl (aU (dd rfl (by decide) rfl) rfl (aT (aW [(1, _), (2, _), (3, _), (9, _), (11, _), (49, _)] ⟨rfl, rfl, rfl, rfl, rfl, rfl, trivial⟩ (fS rfl ((by decide)) (a8 (aS (aR ?_)))))))
 have hsl := bj (fit xs) ys
 refine a9 (gS (m := 0) (xs := []) (vs := []) aB cZ (by decide) rfl rfl rfl (by first | (simp; done) | (intro v hv; rw [List.mem_singleton] at hv; subst hv; rfl)) (by decide)) rfl ?_
 rintro v4 w9 ⟨o4, nn1, lb1, k9, z1⟩
 have gl_o4 := hB.size
 replace o3 := o3.pK k9
 replace hB := hB.trans k9
 replace o4 : Own w9 _ _ 1 v4 0 (bv []) := o4
 refine ogm rfl rfl (a9 (eW (xs := []) (ys := sgB (fit xs) ys) aB cZ rfl (show Own _ _ _ 1 _ 0 (bv []) from o4) rfl o3.rd (by rw [hsl]; decide) (by have := hB.size; omega)) rfl ?_)
 rintro v5 w10 ⟨o5, k10, lb2, _⟩
 replace hB := hB.new k10 (fun x hx => .inl (Nat.le_trans gl_o4 (o4.blk x hx).1))
 replace o5 : OwnB w10 w8.heap.size v5 (sgB (fit xs) ys) := by have e := o5; rw [List.nil_append, Nat.zero_add] at e; exact e
 refine oga rfl rfl (aT (aS (aR (ogm rfl rfl (aU (oP rfl rfl (by decide)) rfl ?_)))))
 have htm := nR n
 refine aU (cI rfl rfl (by omega)) rfl (aU (e9 rfl rfl ⟨by omega, by decide⟩) rfl ?_)
 obtain ⟨j, hj0, hj1, hj⟩ : ∃ j : Nat, 32 ≤ j ∧ j < 64 ∧ 32 + (n.tmod 32 + 32) % 32 = (j : Int) := ⟨(32 + (n.tmod 32 + 32) % 32).toNat, by omega, by omega, by omega⟩
 refine aU (cM (v' := .int .i64 (j : Int)) (cI rfl rfl (by omega)) (by rw [← hj])) rfl (oga rfl rfl (aT (aW [(1, _), (2, _), (3, _), (9, _), (13, _)] ⟨rfl, rfl, rfl, rfl, rfl, trivial⟩ (aS (aR (ogm rfl rfl (ogm rfl rfl (ogm rfl rfl (ogm rfl rfl (aU (dV aB cZ rfl o5.rd rfl (by rw [bj]; omega)) rfl (aU (cM (v' := .int .u8 (((sgB (fit xs) ys).getD j 0).toNat : Int)) (d7 j4 rfl o5.rd (by rw [bj]; omega)) (by rw [kN])) rfl (ogm rfl rfl (aU (cM (v' := .int .u8 (((sgB (fit xs) ys).getD j 0 ^^^ b).toNat : Int)) (oO rfl rfl) (by rw [xor8])) rfl (aU (dV aB cZ rfl o5.rd rfl (by rw [bj]; omega)) rfl (a6 (lx (j := j) ((sgB (fit xs) ys).getD j 0 ^^^ b) cZ (by rw [show ea v5 j = ea v5 ((j : Int).toNat * 1) from by rw [Int.toNat_natCast, Nat.mul_one]]; rfl) rfl rfl o5 (by rw [bj]; exact hj1)) ?_)))))))))))))))
 rintro _ w11 ⟨ot, k11, _⟩
 replace hB := hB.new k11 (fun x hx => .inl (Nat.le_trans gl_o4 (o5.blk x hx).1))
 refine aT (aW [(1, _), (3, _), (9, _), (13, _)] ⟨rfl, rfl, rfl, rfl, trivial⟩ (aS (aR (ogm rfl rfl (aU (gR rfl rfl) rfl (ogm rfl rfl (dS rfl rfl rfl rfl (by rw [hne]; decide) rfl (ba rfl) (dS rfl rfl rfl rfl (by rw [hne]; decide) rfl (ba rfl) (dS rfl rfl rfl rfl (by rw [hne]; decide) rfl (ba rfl) (dS rfl rfl rfl rfl (by rw [hne]; decide) rfl (ba rfl) (dS rfl rfl rfl rfl (by rw [hne]; decide) rfl (ba rfl) (dS rfl rfl rfl rfl (by rw [hne]; decide) rfl (ba rfl) (aU (g6 rfl (by rw [hne]; rfl) rfl) rfl ?_)))))))))))))
 refine oga rfl rfl (aT (aW [(8, _)] ⟨rfl, trivial⟩ (bD hfin Tryd.results3 rfl ?_)))
 exact ⟨rfl, hB⟩
theorem iX (v vt : Value) (n : Int) (b : UInt8) (xs ys : List UInt8) (w : World) (hT : Tabs w) (hv : RdB w v xs) (hy : RdB w vt ys) (hx : xs.length ≤ 140737488351232) (hyl : ys.length ≤ 140737488351232) : Rets Tryd.prog 3 [v, vt, .int .i64 n, .int .u8 (b.toNat : Int)] w (fun r w' => r = .bool true ∧ Keep [] w w') := by
  by_cases h : b = 0
  · exact jh v vt n b xs ys w hT hv hy hx hyl h
  · exact ji v vt n b xs ys w hT hv hy hx hyl h
end Go.Proofs.YtllmbkmghmmhfaaDoor.W
namespace Go.Proofs.YtllmbkmghmmhfaaDoor.SignDone
open Go Go.Eng Go.Byt Go.Sha Go.ChangeShapes Go.WideShapes Go.ChangeAt Go.RowKit Go.Proofs.YtllmbkmghmmhfaaDoor.W
theorem na {W : World} {nm : String} {g T E m fuel : Nat} {zs : List Int} {cs : Array Value} {p : List MemPlace} (hg : Tryd.prog.globalNamed nm = some g) (hT : Tryd.prog.underlying T = some (.array m E)) (hE : Tryd.prog.underlying E = some (.int .u64)) (hc : Tryd.prog.cellsOf E = 1) (hm : zs.length = m)
   (hv : W.var? Tryd.prog nm = some cs) (hd : DataW.trod (fun _ => ()) Tryd.prog W 0 (fun _ => true) false fuel T cs.toList = some (.agg (zs.map fun n => .lit (.int .u64 n)), p)) : Row W ⟨g, 0, none⟩ (zs.map fun n => .int .u64 n) := by
 intro r u hu
 obtain ⟨xs, m', _, ex, _, hl, hel⟩ := DataW.trod_array hT hd
 have hr : r < zs.length := by
   rcases Nat.lt_or_ge r zs.length with h | h
   · exact h
   · rw [List.getElem?_eq_none (by rw [List.length_map]; exact h)] at hu; cases hu
 have hE' := hel r (by omega)
 rw [hc, Nat.mul_one, List.getElem?_eq_getElem (by omega)] at hE'
 obtain ⟨z, e1, e2, _⟩ := DataW.trod_int hE hE'
 have e3 : (xs.map (·.1)) = zs.map fun n => .lit (.int .u64 n) := (DataW.agg.inj (Prod.mk.inj ex).1).symm
 have e4 : (xs.map (·.1))[r]? = (zs.map fun n => (DataW.lit (.int .u64 n) : DataW Unit))[r]? := by rw [e3]
 rw [List.getElem?_map, List.getElem?_map, List.getElem?_eq_getElem (by omega : r < xs.length), List.getElem?_eq_getElem hr, e2] at e4
 have hz : z = zs[r] := by
   simp only [Option.map_some, Option.some.injEq, DataW.lit.injEq, Lit.int.injEq, true_and] at e4
   exact e4
 rw [List.getElem?_map, List.getElem?_eq_getElem hr] at hu
 simp only [Option.map_some, Option.some.injEq] at hu
 have e5 : cs.toList[r]? = some (.int .u64 z) := by
   have h0 : ((cs.toList.drop r).take 1)[0]? = some (.int .u64 z) := by rw [e1]; rfl
   simpa using h0
 have e6 : (⟨g, 0, none⟩ : Addr).add r = ⟨g, r, none⟩ := by rw [Addr.add_lit, Nat.zero_add]
 rw [e6, World.var?_cell hg hv r, ← hu, ← hz]
 simpa using e5
theorem sq_data : (Rows.laid_synod_sha_squares : DataW Unit) = .agg (((KB Hl).map fun x => (x.toNat : Int)).map fun n => .lit (.int .u64 n)) := by kernel_rfl
theorem cu_data : (Rows.laid_synod_sha_cubes : DataW Unit) = .agg (((KB Kl).map fun x => (x.toNat : Int)).map fun n => .lit (.int .u64 n)) := by kernel_rfl
theorem nW : iv .u64 8 (wN (KB Hl)) = ((KB Hl).map fun x => (x.toNat : Int)).map fun n => .int .u64 n := by kernel_rfl
theorem pA : iv .u64 80 (wN (KB Kl)) = ((KB Kl).map fun x => (x.toNat : Int)).map fun n => .int .u64 n := by kernel_rfl
theorem tabs_of {W : World} (h : laidMetH Tryd.prog [("synod/sha.cubes", Rows.laid_synod_sha_cubes), ("synod/sha.squares", Rows.laid_synod_sha_squares)] W) : Tabs W := by
 rw [MakeChecks.laidMetH_plain _ _ _ (by kernel_rfl)] at h
 obtain ⟨ps, ⟨g, t, cs, fuel, p, q, hg, ht, hv, hd, ⟨g', t', cs', fuel', p', q', hg', ht', hv', hd', _, _⟩, _⟩, _, _⟩ := h
 obtain rfl := Option.some.inj ((show Tryd.prog.globalNamed "synod/sha.cubes" = some 1 by kernel_rfl).symm.trans hg)
 obtain rfl := Option.some.inj ((show (Tryd.prog.globals[1]?).map (·.type) = some 108 by kernel_rfl).symm.trans ht)
 obtain rfl := Option.some.inj ((show Tryd.prog.globalNamed "synod/sha.squares" = some 0 by kernel_rfl).symm.trans hg')
 obtain rfl := Option.some.inj ((show (Tryd.prog.globals[0]?).map (·.type) = some 92 by kernel_rfl).symm.trans ht')
 rw [cu_data] at hd
 rw [sq_data] at hd'
 have c5 : Tryd.prog.cellsOf 39 = 1 := by kernel_rfl
 refine ⟨?_, ?_⟩
 · rw [nW]; exact na hg' aC aJ c5 (by decide +kernel) hv' hd'
 · rw [pA]; exact na hg aM aJ c5 (by decide +kernel) hv hd
theorem me {P : Program} {w : World} {r : Reach} {base : Nat} {t : TypeId} {v : Value} (ht : P.underlying t = some (.int .u8)) (h : Value.okWide P w r base t v) : ∃ b : UInt8, v = .int .u8 (b.toNat : Int) := by
 obtain ⟨n, rfl⟩ := okWide_int ht h
 simp only [Value.okWide, ht, Cell.okWide, Cell.ok, IntKind.has] at h
 have h1 : IntKind.u8.min ≤ n ∧ n ≤ IntKind.u8.max := by simpa using h
 have h2 : (0 : Int) ≤ n ∧ n ≤ 255 := h1
 refine ⟨UInt8.ofNat n.toNat, ?_⟩
 have e : (UInt8.ofNat n.toNat).toNat = n.toNat := by simp; omega
 rw [e, Int.toNat_of_nonneg h2.1]
theorem own : ownKnob Tryd.prog.godebug = none := by kernel_rfl
theorem laidOut : laidOutB Tryd.prog = true := by kernel_rfl
end Go.Proofs.YtllmbkmghmmhfaaDoor.SignDone
