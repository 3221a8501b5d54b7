/- Contracts and laws, part 6 of 6: what each function of the program and of the reference computes, shown once. -/
import Derived.LaidMore
import Derived.Lay
import Derived.OpenShut
import Derived.ProofKit
import Derived.SevenTiedAt
import Derived.Stop.Joined
import Derived.Test.YtllmbkmghmmhfaaGreatDoorRows
import Derived.Test.YtllmbkmghmmhfaaGreatDoorQpe
set_option maxRecDepth 100000
set_option maxHeartbeats 4000000
set_option linter.unusedVariables false
set_option linter.unusedSimpArgs false
namespace Go.Proofs.YtllmbkmghmmhfaaGreatDoor.W
open Go Go.Eng Go.Byt
open Go.Fld Go.Ed
attribute [local irreducible] encB
theorem kE (p : Nat → Int) (X1 Y1 Z1 : Fp) (hpX : RN (atN p 0) X1) (hpY : RN (atN p 16) Y1) (hpZ : RN (atN p 32) Z1) (w : World) : Rets Tryz.prog 35 [.agg (iv .i64 64 p).toArray] w (fun v w' => OwnB w' w.heap.size v (encB (X1 * inv Z1) (Y1 * inv Z1)) ∧ Keep [] w w') := by
 have hB : Keep [] w w := Keep.refl _ _
 refine ac Tryz.func35 rfl (by decide) Tryz.ntmps35 rfl (fun fin _ hfin => a5 (aZ (ad (bZ (cs := iv .i64 64 p) rfl rfl) rfl ?_)))
 rintro _ w1 ⟨b1, rfl, eb1, hb1, k1, z1⟩
 replace hB := hB.trans k1
 clear eb1 z1
 refine oga rfl rfl (a6 (a5 (aZ (a7 (ax 32 aP rfl bA (by decide) rfl rfl) rfl (a7 (di bj bA rfl hb1 (by first | omega | (unfold In at *; omega))) rfl (ad (a8 (vs := [_]) rfl (ei _ _ hpZ _)) rfl ?_))))))
 rintro _ w2 ⟨hh1, rfl, E1, k2⟩
 obtain ⟨hB, hb1⟩ := bL k2 hB hb1
 refine ad (aj bA) rfl ?_
 rintro _ w3 ⟨b2, rfl, eb2, hb2, k3, z2⟩
 have ge_b2 : w.heap.size ≤ b2 := by have := hB.size; omega
 have ne_b1_b2 : b1 ≠ b2 := by have := hb1.lt; omega
 obtain ⟨hB, hb1⟩ := bL k3 hB hb1
 clear eb2 z2
 replace hb2 : Bk w3 b2 65 (iv .i64 16 (fun _ => 0)) := by rw [iv, bE]; exact hb2
 refine ae (bh (vs := iv .i64 16 hh1) bA rfl rfl rfl ai hb2 rfl) ?_
 rintro _ w4 ⟨hb3, k4, z3⟩
 replace hb1 := hb1.keep k4 (nm ne_b1_b2)
 replace hB := hB.new k4 (nw ge_b2)
 clear z3
 refine a6 (a5 (aZ (a7 (ax 0 aP rfl bA (by decide) rfl rfl) rfl (a7 (di bj bA rfl hb1 (by first | omega | (unfold In at *; omega))) rfl (a7 (aa (cs' := iv .i64 16 hh1) bj bA rfl hb3 rfl rfl) rfl (ad (a8 (vs := [_, _]) rfl (bp _ _ _ _ hpX E1 _)) rfl ?_))))))
 rintro _ w5 ⟨hh2, rfl, E2, k5⟩
 obtain ⟨hB, hb1, hb3⟩ := cc k5 hB hb1 hb3
 refine ad (a8 (vs := [_]) rfl (eE _ _ E2 _)) rfl ?_
 rintro v1 w6 ⟨o1, k6⟩
 obtain ⟨hB, hb1, hb3⟩ := cc k6 hB hb1 hb3
 refine oga rfl rfl (a6 (a9 [(1, _), (3, _), (4, _)] ⟨rfl, rfl, rfl, trivial⟩ (a5 (aZ (a7 (ax 16 aP rfl bA (by decide) rfl rfl) rfl (a7 (di bj bA rfl hb1 (by first | omega | (unfold In at *; omega))) rfl (a7 (aa (cs' := iv .i64 16 hh1) bj bA rfl hb3 rfl rfl) rfl (ad (a8 (vs := [_, _]) rfl (bp _ _ _ _ hpY E1 _)) rfl ?_))))))))
 rintro _ w7 ⟨hh3, rfl, E3, k7⟩
 replace o1 := o1.sD k7
 replace hB := hB.trans k7
 refine ad (a8 (vs := [_]) rfl (eE _ _ E3 _)) rfl ?_
 rintro v2 w8 ⟨o2, k8⟩
 have gl_o2 := hB.size
 replace o1 := o1.sD k8
 replace hB := hB.trans k8
 refine oga rfl rfl (a6 (a5 (cI 10 mixed (by decide +kernel) (fun w9 k9 => ?_))))
 replace o1 := o1.sD k9
 replace o2 := o2.sD k9
 replace hB := hB.trans k9
 refine ao (bb rfl) rfl (ao (bb rfl) rfl (ao (bk aA cf rfl o2.rd rfl (by rw [bG]; decide)) rfl (ao (dI gg rfl (Own.rd o2) (by rw [bG]; decide)) rfl (ao (bb rfl) rfl (ao (bk aA cf rfl o1.rd rfl (by rw [bG]; decide)) rfl (ao (dI gg rfl (Own.rd o1) (by rw [bG]; decide)) rfl (ao (cn rfl rfl) rfl (ao (rD (m := 128) rfl rfl (by decide) (by decide)) rfl (ao (ee rfl rfl) rfl (cU (a7 (bk aA cf rfl o2.rd rfl (by rw [bG]; decide)) rfl ?_)))))))))))
 refine ae (ec (u := .int .u8 _) cf rfl rfl rfl o2 (by rw [bt, bG]; decide)) ?_
 rintro _ w99 ⟨ow2, k99, z99⟩
 replace hB := hB.new k99 (fun x hx => .inl (Nat.le_trans gl_o2 (o2.blk x hx).1))
 rw [hD (fk (k := .u8) rfl rfl), rt (cK _ _)] at ow2
 refine a6 (a9 [(5, _)] ⟨rfl, trivial⟩ (a5 (aZ (ogm rfl rfl (oga rfl rfl (a6 (bN hfin Tryz.results35 rfl ?_)))))))
 exact ⟨(by unfold OwnB encB; rw [List.length_set]; exact ow2.lo gl_o2), hB⟩
theorem rencodeR {p : Nat → Int} {a : Pt} (hp : RPt p a) (w : World) : Rets Tryz.prog 35 [.agg (iv .i64 64 p).toArray] w (fun v w' => OwnB w' w.heap.size v (encB a.1 a.2) ∧ Keep [] w w') := by
  obtain ⟨X1, Y1, Z1, T1, r1, a1, a2, a3, a4⟩ := hp
  have h := kE p _ _ _ a1 a2 a3 w
  rw [(rep_x r1).1, (rep_x r1).2] at h
  exact h
end Go.Proofs.YtllmbkmghmmhfaaGreatDoor.W
namespace Go.Proofs.YtllmbkmghmmhfaaGreatDoor.W
open Go Go.Eng Go.Byt
open Go.Fld Go.Ed
attribute [local irreducible] encB
theorem jU (y : Fp) : decU y = y * y - 1 := by unfold decU; rw [iK]
theorem iN (y : Fp) : decV y = d * (y * y) + 1 := by unfold decV; rw [iK]
theorem ma {xs : List UInt8} {z : Int} {c : Bool} (hz : Eqn z (gb xs 31 / 128)) (h : (!rootOk (decY xs * decY xs - 1) (d * (decY xs * decY xs) + 1) || (decide (z = 1) && decide (rootF (decY xs * decY xs - 1) (d * (decY xs * decY xs) + 1) = 0))) = c) :
   (!rootOk (decU (decY xs)) (decV (decY xs)) || (decOdd xs && decide (rootF (decU (decY xs)) (decV (decY xs)) = 0))) = c := by
 unfold Eqn at hz
 rw [jU, iN]; unfold decOdd; rw [← hz]; exact h
theorem rdec_xT {xs : List UInt8} {z : Int} (hz : Eqn z (gb xs 31 / 128)) (h : z = 1) : decX xs = 0 - rootF (decY xs * decY xs - 1) (d * (decY xs * decY xs) + 1) := by
 unfold Eqn at hz
 unfold decX; rw [if_pos (by unfold decOdd; rw [← hz]; exact decide_eq_true h), jU, iN]
theorem rdec_xF {xs : List UInt8} {z : Int} (hz : Eqn z (gb xs 31 / 128)) (h : ¬ z = 1) : decX xs = rootF (decY xs * decY xs - 1) (d * (decY xs * decY xs) + 1) := by
 unfold Eqn at hz
 unfold decX; rw [if_neg (by unfold decOdd; rw [← hz, decide_eq_false h]; decide), jU, iN]
theorem m9 (v : Value) (xs : List UInt8) (w : World) (hv : RdB w v xs) (hx : xs.length = 32) : Rets Tryz.prog 30 [v] w (fun u w' => ∃ p, u = .tuple #[.agg (iv .i64 64 p).toArray, .int .i64 (decE xs)] ∧ (decE xs = 0 → RPt p (decX xs, decY xs)) ∧ Keep [] w w') := by
  have hB : Keep [] w w := Keep.refl _ _
  refine ac Tryz.func30 rfl (by decide) Tryz.ntmps30 rfl (fun fin _ hfin => a5 (aZ (ad (aj dQ) rfl ?_)))
  rintro _ w1 ⟨b1, rfl, eb1, hb1, k1, z1⟩
  have ge_b1 : w.heap.size ≤ b1 := by have := hB.size; omega
  replace hB := hB.trans k1
  clear eb1 z1
  replace hb1 : Bk w1 b1 67 (iv .i64 64 (fun _ => 0)) := by rw [iv, bE]; exact hb1
  refine oga rfl rfl (a6 (a5 (a5 (aZ (ogm rfl rfl (a7 (cH aA rfl (by first | assumption | exact Own.rd (by assumption) | exact Rd.sD (by assumption) hB | exact Own.rd (Own.sD (by assumption) hB))) rfl (a7 (eU rfl rfl) rfl (a6 ?_))))))))
  refine ck rfl (by omega) (ag (a5 (aZ (ogm rfl rfl (a7 (bk aA cf rfl (by first | assumption | exact Own.rd (by assumption) | exact Rd.sD (by assumption) hB | exact Own.rd (Own.sD (by assumption) hB)) rfl (by omega)) rfl (a7 (dI gg rfl (by first | assumption | exact Own.rd (by assumption) | exact Rd.sD (by assumption) hB | exact Own.rd (Own.sD (by assumption) hB)) (by omega)) rfl (an (e' := (gb xs (31)) / 128) (lo := 0) (hi := 1) (cG (m := 128) rfl rfl (by decide) rfl) (rfl) (In.wk (bi (cK xs (31)) (by decide)) rfl) rfl (fun z2 h1 r1 => oga rfl rfl ?_))))))))
  refine a6 (a5 (aZ ?_))
  have gl_oa := hB.size
  have lt_b1 := hb1.lt
  refine ad (d_bs0 aA cf rfl) rfl ?_
  rintro _ wg ⟨g, rfl, hge, hg0, kg⟩
  obtain ⟨hB, hb1⟩ := bL kg hB hb1
  refine ogm rfl rfl (ad (rb (lo := w1.heap.size) aA cf rfl rfl rfl hg0 (hge ▸ Nat.le_refl _) rfl (hv.sD hB) (by omega)) rfl ?_)
  rintro va wa ⟨oa, ka⟩
  obtain ⟨hB, hb1⟩ := bL ka hB hb1
  have sb_b1_oa := fun x hx => (show x ≠ b1 from by have h1 := (oa.blk x hx).1; omega)
  refine oga rfl rfl (a6 (a9 [(2, _), (4, _), (5, _)] ⟨rfl, rfl, rfl, trivial⟩ (a5 (aZ (ogm rfl rfl (ogm rfl rfl (a7 (bk aA cf rfl oa.rd rfl (by omega)) rfl (a7 (dI gg rfl (Own.rd oa) (by omega)) rfl ?_))))))))
  refine a7 (cn rfl rfl) rfl (a7 (bk aA cf rfl oa.rd rfl (by omega)) rfl (ae (ec (u := .int .u8 _) cf rfl rfl rfl oa (by rw [bt, hx]; decide)) ?_))
  rintro _ w99 ⟨ow2, k99, z99⟩
  replace hB := hB.new k99 (fun x hx => .inl (Nat.le_trans gl_oa (oa.blk x hx).1))
  replace ow2 : OwnB w99 w.heap.size va (decLow xs) := by unfold OwnB decLow; rw [List.length_set, ← hD (ku (k := .u8) rfl _ _ _), ← and127 (cK xs 31)]; exact ow2.lo gl_oa
  replace hb1 := hb1.keep k99 (fun hm => sb_b1_oa _ hm rfl)
  refine a6 (a5 (aZ (ogm rfl rfl (ad (a8 (vs := [_]) rfl (oe _ (decLow xs) _ ow2.rd (jV xs hx))) rfl ?_))))
  rintro _ w2 ⟨hh1, rfl, E1, k2⟩
  replace hb1 := hb1.sD k2
  replace ow2 := ow2.sD k2
  replace hB := hB.trans k2
  refine ad (aj bA) rfl ?_
  rintro _ w3 ⟨b2, rfl, eb2, hb2, k3, z3⟩
  have ge_b2 : w.heap.size ≤ b2 := by have := hB.size; omega
  have ne_b1_b2 : b1 ≠ b2 := by have := hb1.lt; omega
  have sb_b2_ow2 := fun x hx => (show x ≠ b2 from by have := (ow2.blk x hx).2; omega)
  replace hb1 := hb1.sD k3
  replace ow2 := ow2.sD k3
  replace hB := hB.trans k3
  clear eb2 z3
  replace hb2 : Bk w3 b2 65 (iv .i64 16 (fun _ => 0)) := by rw [iv, bE]; exact hb2
  refine ae (bh (vs := iv .i64 16 hh1) bA rfl rfl rfl ai hb2 rfl) ?_
  rintro _ w4 ⟨hb3, k4, z4⟩
  replace hb1 := hb1.keep k4 (nm ne_b1_b2)
  replace ow2 := ow2.keep k4 (fun x hx hm => sb_b2_ow2 x hx (List.mem_singleton.1 hm))
  replace hB := hB.new k4 (nw ge_b2)
  clear z4
  refine a6 (a5 (a5 (bc 6 [0, 3, 4, 1, 2, 5] [1] [] mixed [(6, _), (5, _), (2, _), (4, _)] ⟨rfl, rfl, rfl, rfl, trivial⟩ (by decide +kernel) rfl (fun w5 k5 => ?_))))
  replace hb1 := hb1.sD k5
  replace ow2 := ow2.sD k5
  obtain ⟨hB, hb3⟩ := bL k5 hB hb3
  refine am 6 rfl rfl rfl rfl (fun W' kk => aa (cs' := iv .i64 16 hh1) bj bA rfl (Bk.sD hb3 kk) rfl rfl) (bH 5 rfl rfl rfl rfl rfl (am 33 rfl rfl rfl rfl (fun W' kk => gt aA aH aW rfl (ow2.sD kk).rd) (bq [(30, _)] rfl rfl ⟨rfl, trivial⟩ rfl (a8 (vs := [_]) rfl (eE _ _ E1 _)) ?_)))
  rintro v1 w6 ⟨o1, k6⟩
  refine ⟨k6, ?_⟩
  replace hb1 := hb1.sD k6
  replace ow2 := ow2.sD k6
  obtain ⟨hB, hb3⟩ := bL k6 hB hb3
  refine am 31 rfl rfl rfl rfl (fun W' kk => gt aA aH aW rfl (o1.sD kk).rd) (cE 32 34 rfl rfl rfl rfl rfl (fun W' kk => g_nes rfl rfl) (bx (a6 (ba rfl (fun hc1 => ?_) (fun hc1 => ?_)))))
  · -- yes
    refine a5 (aZ (ad (a8 (vs := []) rfl (iD _)) rfl ?_))
    rintro _ w7 ⟨hh2, rfl, E2, k7⟩
    replace hb1 := hb1.sD k7
    replace ow2 := ow2.sD k7
    obtain ⟨hB, hb3⟩ := bL k7 hB hb3
    refine ae (bh (vs := iv .i64 64 hh2) dQ rfl rfl rfl ai hb1 rfl) ?_
    rintro _ w8 ⟨hb4, k8, z5⟩
    replace ow2 := ow2.keep k8 (fun x hx hm => sb_b1_oa x hx (List.mem_singleton.1 hm))
    replace hb3 := hb3.keep k8 (nm (Ne.symm ne_b1_b2))
    replace hB := hB.new k8 (nw ge_b1)
    clear z5
    refine oga rfl rfl (a6 (a9 [(2, _), (3, _)] ⟨rfl, rfl, trivial⟩ (cQ hfin Tryz.results30 rfl (ak gN dQ hb4 rfl) rfl ?_)))
    have he := rW hx hc1
    exact ⟨_, by rw [he], fun h => by rw [he] at h; exact absurd h (by decide), hB⟩
  · -- no
    refine ag (a5 (aZ (ad (a8 (vs := [_]) rfl (cv 1 (by decide) _)) rfl ?_)))
    rintro _ w9 ⟨hh3, rfl, E3, C1, k9⟩
    replace hb1 := hb1.sD k9
    replace ow2 := ow2.sD k9
    obtain ⟨hB, hb3⟩ := bL k9 hB hb3
    replace E3 : RN hh3 1 := iK ▸ E3
    refine ad (aj bA) rfl ?_
    rintro _ w10 ⟨b3, rfl, eb3, hb5, k10, z6⟩
    have ge_b3 : w.heap.size ≤ b3 := by have := hB.size; omega
    have ne_b1_b3 : b1 ≠ b3 := by have := hb1.lt; omega
    have sb_b3_ow2 := fun x hx => (show x ≠ b3 from by have := (ow2.blk x hx).2; omega)
    have ne_b2_b3 : b2 ≠ b3 := by have := hb3.lt; omega
    replace hb1 := hb1.sD k10
    replace ow2 := ow2.sD k10
    obtain ⟨hB, hb3⟩ := bL k10 hB hb3
    clear eb3 z6
    replace hb5 : Bk w10 b3 65 (iv .i64 16 (fun _ => 0)) := by rw [iv, bE]; exact hb5
    refine ae (bh (vs := iv .i64 16 hh3) bA rfl rfl rfl ai hb5 rfl) ?_
    rintro _ w11 ⟨hb6, k11, z7⟩
    replace hb1 := hb1.keep k11 (nm ne_b1_b3)
    replace ow2 := ow2.keep k11 (fun x hx hm => sb_b3_ow2 x hx (List.mem_singleton.1 hm))
    replace hb3 := hb3.keep k11 (nm ne_b2_b3)
    replace hB := hB.new k11 (nw ge_b3)
    clear z7
    refine a6 (a5 (aZ (a7 (aa (cs' := iv .i64 16 hh1) bj bA rfl hb3 rfl rfl) rfl (a7 (aa (cs' := iv .i64 16 hh1) bj bA rfl hb3 rfl rfl) rfl (ad (a8 (vs := [_, _]) rfl (bp _ _ _ _ E1 E1 _)) rfl ?_)))))
    rintro _ w12 ⟨hh4, rfl, E4, k12⟩
    replace hb1 := hb1.sD k12
    replace ow2 := ow2.sD k12
    obtain ⟨hB, hb3, hb6⟩ := cc k12 hB hb3 hb6
    refine ad (aj bA) rfl ?_
    rintro _ w13 ⟨b4, rfl, eb4, hb7, k13, z8⟩
    have ge_b4 : w.heap.size ≤ b4 := by have := hB.size; omega
    have ne_b1_b4 : b1 ≠ b4 := by have := hb1.lt; omega
    have sb_b4_ow2 := fun x hx => (show x ≠ b4 from by have := (ow2.blk x hx).2; omega)
    have ne_b2_b4 : b2 ≠ b4 := by have := hb3.lt; omega
    have ne_b3_b4 : b3 ≠ b4 := by have := hb6.lt; omega
    replace hb1 := hb1.sD k13
    replace ow2 := ow2.sD k13
    obtain ⟨hB, hb3, hb6⟩ := cc k13 hB hb3 hb6
    clear eb4 z8
    replace hb7 : Bk w13 b4 65 (iv .i64 16 (fun _ => 0)) := by rw [iv, bE]; exact hb7
    refine ae (bh (vs := iv .i64 16 hh4) bA rfl rfl rfl ai hb7 rfl) ?_
    rintro _ w14 ⟨hb8, k14, z9⟩
    replace hb1 := hb1.keep k14 (nm ne_b1_b4)
    replace ow2 := ow2.keep k14 (fun x hx hm => sb_b4_ow2 x hx (List.mem_singleton.1 hm))
    replace hb3 := hb3.keep k14 (nm ne_b2_b4)
    replace hb6 := hb6.keep k14 (nm ne_b3_b4)
    replace hB := hB.new k14 (nw ge_b4)
    clear z9
    refine a6 (a9 [(6, _), (2, _), (4, _), (7, _), (8, _)] ⟨rfl, rfl, rfl, rfl, rfl, trivial⟩ (a5 ?_))
    have gs1 := hB.size
    have lt1 := hb1.lt
    have lt2 := fun x hx => (ow2.blk x hx).2
    have lt3 := hb3.lt
    refine gc 13 [0, 1, 4, 6, 2, 3, 5, 7, 8, 9, 10, 11] [2, 3, 5, 7, 8] [] [(12, 65, List.replicate 16 (.int .i64 0))] (x := 11) rfl mixed [(8, _), (7, _), (6, _), (2, _), (4, _)] ⟨rfl, rfl, rfl, rfl, rfl, trivial⟩ (by decide +kernel) (by decide) (by decide) ?_ (fun x hx => by cases hx) rfl (fun w15 k15 => ?_)
    · simp only [List.forall_mem_cons]; exact ⟨⟨_, _, _, _, _, _, rfl, bA⟩, fun q hq => by cases hq⟩
    replace hb1 := hb1.sD k15
    replace ow2 := ow2.sD k15
    obtain ⟨hB, hb3, hb6, hb8⟩ := dE k15 hB hb3 hb6 hb8
    refine al 8 rfl rfl rfl rfl (fun W' kk => aa (cs' := iv .i64 16 hh4) bj bA rfl (Bk.sD hb8 kk) rfl rfl) (al 7 rfl rfl rfl rfl (fun W' kk => aa (cs' := iv .i64 16 hh3) bj bA rfl (Bk.sD hb6 kk) rfl rfl) (al 8 rfl rfl rfl rfl (fun W' kk => aa (cs' := iv .i64 16 hh4) bj bA rfl (Bk.sD hb8 kk) rfl rfl) (al 7 rfl rfl rfl rfl (fun W' kk => aa (cs' := iv .i64 16 hh3) bj bA rfl (Bk.sD hb6 kk) rfl rfl) (bm [(42, _), (43, _)] rfl rfl ⟨rfl, rfl, trivial⟩ rfl (fun w17 k17 => ?_)))))
    replace hb1 := hb1.sD k17
    replace ow2 := ow2.sD k17
    obtain ⟨hB, hb3⟩ := bL k17 hB hb3
    refine (a8 (vs := [_, _]) rfl (eD _ _ _ _ E4 E3 _)).mono ?_
    rintro _ w16 ⟨hh5, rfl, E5, k16⟩
    refine ⟨k16, nox, ?_⟩
    replace hb1 := hb1.sD k16
    replace ow2 := ow2.sD k16
    obtain ⟨hB, hb3⟩ := bL k16 hB hb3
    refine bm [] rfl rfl trivial rfl (fun w19 k19 => ?_)
    replace hb1 := hb1.sD k19
    replace ow2 := ow2.sD k19
    obtain ⟨hB, hb3⟩ := bL k19 hB hb3
    refine (a8 (vs := []) rfl (qR _)).mono ?_
    rintro _ w18 ⟨hh6, rfl, E6, k18⟩
    refine ⟨k18, nox, ?_⟩
    replace hb1 := hb1.sD k18
    replace ow2 := ow2.sD k18
    obtain ⟨hB, hb3⟩ := bL k18 hB hb3
    refine bm [(45, _), (46, _)] rfl rfl ⟨rfl, rfl, trivial⟩ rfl (fun w21 k21 => ?_)
    replace hb1 := hb1.sD k21
    replace ow2 := ow2.sD k21
    obtain ⟨hB, hb3⟩ := bL k21 hB hb3
    refine (a8 (vs := [_, _]) rfl (bp _ _ _ _ E6 E4 _)).mono ?_
    rintro _ w20 ⟨hh7, rfl, E7, k20⟩
    refine ⟨k20, nox, ?_⟩
    replace hb1 := hb1.sD k20
    replace ow2 := ow2.sD k20
    obtain ⟨hB, hb3⟩ := bL k20 hB hb3
    refine bm [(47, _), (48, _)] rfl rfl ⟨rfl, rfl, trivial⟩ rfl (fun w23 k23 => ?_)
    replace hb1 := hb1.sD k23
    replace ow2 := ow2.sD k23
    obtain ⟨hB, hb3⟩ := bL k23 hB hb3
    refine (a8 (vs := [_, _]) rfl (fI _ _ _ _ E7 E3 _)).mono ?_
    rintro _ w22 ⟨hh8, rfl, E8, k22⟩
    refine ⟨k22, nox, ?_⟩
    replace hb1 := hb1.sD k22
    replace ow2 := ow2.sD k22
    obtain ⟨hB, hb3⟩ := bL k22 hB hb3
    refine bm [(44, _), (49, _)] rfl rfl ⟨rfl, rfl, trivial⟩ rfl (fun w25 k25 => ?_)
    replace hb1 := hb1.sD k25
    replace ow2 := ow2.sD k25
    obtain ⟨hB, hb3⟩ := bL k25 hB hb3
    refine (a8 (vs := [_, _]) rfl (mV _ _ _ _ E5 E8 _)).mono ?_
    rintro _ w24 ⟨hh9, rfl, E9, k24⟩
    refine ⟨k24, nox, ?_⟩
    replace hb1 := hb1.sD k24
    replace ow2 := ow2.sD k24
    obtain ⟨hB, hb3⟩ := bL k24 hB hb3
    refine cA 50 rfl rfl rfl rfl rfl (al 41 rfl rfl rfl rfl (fun W' kk => bJ (vs := [_, _]) rfl rfl) (al 41 rfl rfl rfl rfl (fun W' kk => bJ (vs := [_, _]) rfl rfl) (i4 (fun w26 k26 => ?_))))
    replace hb1 := hb1.sD k26
    replace ow2 := ow2.sD k26
    obtain ⟨hB, hb3⟩ := bL k26 hB hb3
    intro b5 eb5 lb1 hb9 ds1 sp1
    have ge_b5 : w.heap.size ≤ b5 := Nat.le_trans gs1 eb5
    have ne_b1_b5 : b1 ≠ b5 := Nat.ne_of_lt (Nat.lt_of_lt_of_le lt1 eb5)
    have sb_b5_ow2 := fun x hx => (Nat.ne_of_lt (Nat.lt_of_lt_of_le (lt2 x hx) eb5))
    have ne_b2_b5 : b2 ≠ b5 := Nat.ne_of_lt (Nat.lt_of_lt_of_le lt3 eb5)
    replace hb9 : Bk w26 b5 65 (iv .i64 16 (fun _ => 0)) := by rw [iv, bE]; exact hb9
    refine gx (tailx [(9, _), (51, _)] rfl ⟨rfl, rfl, trivial⟩ rfl (bh (vs := iv .i64 16 hh9) bA rfl rfl rfl ai hb9 rfl) ?_)
    rintro _ w27 ⟨hb10, k27, z10⟩
    replace hb1 := hb1.keep k27 (nm ne_b1_b5)
    replace ow2 := ow2.keep k27 (fun x hx hm => sb_b5_ow2 x hx (List.mem_singleton.1 hm))
    replace hb3 := hb3.keep k27 (nm ne_b2_b5)
    replace hB := hB.new k27 (nw ge_b5)
    clear z10
    refine oga rfl rfl (a6 (a9 [(6, _), (2, _), (4, _), (9, _), (10, _)] ⟨rfl, rfl, rfl, rfl, rfl, trivial⟩ (a5 (a5 (bO 11 [0, 1, 2, 3, 4, 5, 6, 7, 8, 9, 10] [7, 8] [] [] mixed [(10, _), (4, _), (9, _), (6, _), (2, _)] ⟨rfl, rfl, rfl, rfl, rfl, trivial⟩ (by decide +kernel) (by decide) (by decide) ?_ (fun x hx => by cases hx) rfl (fun w28 k28 => ?_))))))
    · intro q hq; cases hq
    replace hb1 := hb1.sD k28
    replace ow2 := ow2.sD k28
    obtain ⟨hB, hb3, hb10⟩ := cc k28 hB hb3 hb10
    refine cA 10 rfl rfl rfl rfl rfl (al 53 rfl rfl rfl rfl (fun W' kk => lv rfl) (cA 54 rfl rfl rfl rfl rfl (kP 55 false rfl (fun c1 hgc1 => eW [(4, _), (55, _)] [(4, _)] rfl rfl ⟨rfl, rfl, trivial⟩ rfl (dT rfl rfl rfl hgc1) ⟨fS rfl, trivial⟩ (fun hw1 => (fun W' kk => bb rfl)) (eW [(55, _), (56, _)] [(56, _)] rfl rfl ⟨rfl, rfl, trivial⟩ rfl (dT rfl rfl rfl hgc1) ⟨dU rfl, trivial⟩ (fun hw2 => (fun W' kk => fW rfl rfl)) (eW [(55, _), (57, _)] [(57, _)] rfl rfl ⟨rfl, rfl, trivial⟩ rfl (dT rfl rfl rfl hgc1) ⟨dU rfl, trivial⟩ (fun hw3 => (fun W' kk => bb rfl)) (i5 58 true rfl (fun c2 hgc2 => eW [(9, _), (58, _)] [(9, _)] rfl rfl ⟨rfl, rfl, trivial⟩ rfl (gL rfl rfl rfl hgc2) ⟨fS rfl, trivial⟩ (fun hw4 => (fun W' kk => aa (cs' := iv .i64 16 hh9) bj bA rfl (Bk.sD hb10 kk) rfl rfl)) ?_))))))))
    refine fD (V := .agg (iv .i64 16 (fun _ => 0)).toArray) [(58, _)] [] rfl rfl ⟨rfl, trivial⟩ rfl (gL rfl rfl rfl hgc2) trivial rfl (fun W1 kk hw5 => (a8 (vs := [_]) rfl (eL _)).mono (by rintro _ w29 ⟨rfl, k29⟩; exact ⟨rfl, k29⟩)) (fun w30 k30 => ?_)
    replace hb1 := hb1.sD k30
    replace ow2 := ow2.sD k30
    obtain ⟨hB, hb3, hb10⟩ := cc k30 hB hb3 hb10
    refine fD (V := .bool (decide ((rootF (((decY xs) * (decY xs)) - 1) ((d * ((decY xs) * (decY xs))) + 1)) = 0))) [(58, _), (59, _), (60, _)] [(59, _), (60, _)] rfl rfl ⟨rfl, rfl, rfl, trivial⟩ rfl (gL rfl rfl rfl hgc2) ⟨dU rfl, dU rfl, trivial⟩ rfl (fun W1 kk hw6 => (a8 (vs := [_, _]) rfl (fH _ _ _ _ E9 fx _)).mono (by rintro _ w31 ⟨rfl, k31⟩; exact ⟨rfl, k31⟩)) (fun w32 k32 => ?_)
    replace hb1 := hb1.sD k32
    replace ow2 := ow2.sD k32
    obtain ⟨hB, hb3, hb10⟩ := cc k32 hB hb3 hb10
    refine i3 (dj := 0) [(55, _), (58, _), (61, _)] rfl rfl ⟨rfl, rfl, rfl, trivial⟩ rfl (dT rfl rfl rfl hgc1) (dU rfl) rfl hgc2 rfl (cm 55 62 rfl rfl rfl rfl rfl (fun W' kk => gO rfl rfl hgc1) (cC (fun w33 k33 => ?_)))
    replace hb1 := hb1.sD k33
    replace ow2 := ow2.sD k33
    obtain ⟨hB, hb3, hb10⟩ := cc k33 hB hb3 hb10
    refine bP (a6 (a9 [(4, _), (9, _), (6, _), (2, _), (63, _)] ⟨rfl, rfl, rfl, rfl, rfl, trivial⟩ (dV rfl (fun hc2 => ?_) (fun hc2 => ?_))))
    · -- yes
      have hd1 := hc2
      try (simp only [Bool.and_eq_true, Bool.or_eq_true, decide_eq_true_eq, Bool.and_eq_false_iff, Bool.or_eq_false_iff, decide_eq_false_iff_not, Bool.not_eq_true', Bool.not_eq_false', Bool.not_eq_true, Bool.not_eq_false, ne_eq, Decidable.not_not] at hd1)
      refine a5 (aZ (ad (a8 (vs := []) rfl (iD _)) rfl ?_))
      rintro _ w34 ⟨hh10, rfl, E10, k34⟩
      replace hb1 := hb1.sD k34
      replace ow2 := ow2.sD k34
      obtain ⟨hB, hb3, hb10⟩ := cc k34 hB hb3 hb10
      refine ae (bh (vs := iv .i64 64 hh10) dQ rfl rfl rfl ai hb1 rfl) ?_
      rintro _ w35 ⟨hb11, k35, z11⟩
      replace ow2 := ow2.keep k35 (fun x hx hm => sb_b1_oa x hx (List.mem_singleton.1 hm))
      replace hb3 := hb3.keep k35 (nm (Ne.symm ne_b1_b2))
      replace hb10 := hb10.keep k35 (nm (Ne.symm ne_b1_b5))
      replace hB := hB.new k35 (nw ge_b1)
      clear z11
      refine oga rfl rfl (a6 (cQ hfin Tryz.results30 rfl (ak gN dQ hb11 rfl) rfl ?_))
      have he := rV (z := 0) hx (not_not_intro (Decidable.of_not_not hc1)) (ma h1 hc2)
      exact ⟨_, by rw [he], fun h => by rw [he] at h; exact absurd h (by decide), hB⟩
    · -- no
      have hd2 := hc2
      try (simp only [Bool.and_eq_true, Bool.or_eq_true, decide_eq_true_eq, Bool.and_eq_false_iff, Bool.or_eq_false_iff, decide_eq_false_iff_not, Bool.not_eq_true', Bool.not_eq_false', Bool.not_eq_true, Bool.not_eq_false, ne_eq, Decidable.not_not] at hd2)
      refine ag (a5 (a5 (aZ (ogm rfl rfl (a7 (fW rfl rfl) rfl (a6 (ba rfl (fun hc3 => ?_) (fun hc3 => ?_))))))))
      · -- yes
        refine bc 2 [1, 0] [0] [] mixed [(9, _), (6, _), (2, _)] ⟨rfl, rfl, rfl, trivial⟩ (by decide +kernel) rfl (fun w36 k36 => ?_)
        replace hb1 := hb1.sD k36
        replace ow2 := ow2.sD k36
        obtain ⟨hB, hb3, hb10⟩ := cc k36 hB hb3 hb10
        refine am 9 rfl rfl rfl rfl (fun W' kk => aa (cs' := iv .i64 16 hh9) bj bA rfl (Bk.sD hb10 kk) rfl rfl) (bq [] rfl rfl trivial rfl (a8 (vs := [_]) rfl (eL _)) ?_)
        rintro _ w37 ⟨rfl, k37⟩
        refine ⟨k37, ?_⟩
        replace hb1 := hb1.sD k37
        replace ow2 := ow2.sD k37
        obtain ⟨hB, hb3, hb10⟩ := cc k37 hB hb3 hb10
        refine bx (ad (a8 (vs := [_, _]) rfl (eD _ _ _ _ fx E9 _)) rfl ?_)
        rintro _ w38 ⟨hh11, rfl, E11, k38⟩
        replace hb1 := hb1.sD k38
        replace ow2 := ow2.sD k38
        obtain ⟨hB, hb3, hb10⟩ := cc k38 hB hb3 hb10
        refine ae (bh (vs := iv .i64 16 hh11) bA rfl rfl rfl ai hb10 rfl) ?_
        rintro _ w39 ⟨hb12, k39, z12⟩
        replace hb1 := hb1.keep k39 (nm ne_b1_b5)
        replace ow2 := ow2.keep k39 (fun x hx hm => sb_b5_ow2 x hx (List.mem_singleton.1 hm))
        replace hb3 := hb3.keep k39 (nm ne_b2_b5)
        replace hB := hB.new k39 (nw ge_b5)
        clear z12
        refine a6 (a5 (aZ (a7 (aa (cs' := iv .i64 16 hh11) bj bA rfl hb12 rfl rfl) rfl (a7 (aa (cs' := iv .i64 16 hh1) bj bA rfl hb3 rfl rfl) rfl (ad (a8 (vs := [_, _]) rfl (kG _ _ _ _ E11 E1 _)) rfl ?_)))))
        rintro _ w40 ⟨hh12, rfl, E12, k40⟩
        replace hb1 := hb1.sD k40
        replace ow2 := ow2.sD k40
        obtain ⟨hB, hb3⟩ := bL k40 hB hb3
        refine ae (bh (vs := iv .i64 64 hh12) dQ rfl rfl rfl ai hb1 rfl) ?_
        rintro _ w41 ⟨hb13, k41, z13⟩
        replace ow2 := ow2.keep k41 (fun x hx hm => sb_b1_oa x hx (List.mem_singleton.1 hm))
        replace hb3 := hb3.keep k41 (nm (Ne.symm ne_b1_b2))
        replace hB := hB.new k41 (nw ge_b1)
        clear z13
        refine oga rfl rfl (a6 (cQ hfin Tryz.results30 rfl (ak gN dQ hb13 rfl) rfl ?_))
        have he := ko (z := 0) hx (not_not_intro (Decidable.of_not_not hc1)) (ma h1 hc2)
        exact ⟨_, by rw [he], fun _ => (by rw [rdec_xT h1 hc3]; exact E12), hB⟩
      · -- no
        refine ag (a5 (aZ (a7 (aa (cs' := iv .i64 16 hh9) bj bA rfl hb10 rfl rfl) rfl (a7 (aa (cs' := iv .i64 16 hh1) bj bA rfl hb3 rfl rfl) rfl (ad (a8 (vs := [_, _]) rfl (kG _ _ _ _ E9 E1 _)) rfl ?_)))))
        rintro _ w42 ⟨hh13, rfl, E13, k42⟩
        replace hb1 := hb1.sD k42
        replace ow2 := ow2.sD k42
        replace hB := hB.trans k42
        refine ae (bh (vs := iv .i64 64 hh13) dQ rfl rfl rfl ai hb1 rfl) ?_
        rintro _ w43 ⟨hb14, k43, z14⟩
        replace ow2 := ow2.keep k43 (fun x hx hm => sb_b1_oa x hx (List.mem_singleton.1 hm))
        replace hB := hB.new k43 (nw ge_b1)
        clear z14
        refine oga rfl rfl (a6 (cQ hfin Tryz.results30 rfl (ak gN dQ hb14 rfl) rfl ?_))
        have he := ko (z := 0) hx (not_not_intro (Decidable.of_not_not hc1)) (ma h1 hc2)
        exact ⟨_, by rw [he], fun _ => (by rw [rdec_xF h1 hc3]; exact E13), hB⟩
theorem kI (v : Value) (w : World) (hv : RdB w v baseB) : Rets Tryz.prog 30 [v] w (fun u w' => ∃ p, u = .tuple #[.agg (iv .i64 64 p).toArray, .int .i64 0] ∧ RPt p basePt ∧ Keep [] w w') :=
  (m9 v baseB w hv (by decide)).mono fun r w' ⟨p, e, h, k⟩ => ⟨p, by rw [e, ky], by have := h ky; rw [ro, kw] at this; exact this, k⟩
theorem ov (w : World) : Rets Tryz.prog 40 [] w (fun v w' => ∃ r, v = .agg (iv .i64 64 r).toArray ∧ RPt r basePt ∧ Keep [] w w') := by
 have hB : Keep [] w w := Keep.refl _ _
 refine ac Tryz.func40 rfl (by decide) Tryz.ntmps40 rfl (fun fin _ hfin => a5 (aZ (ad (aj dQ) rfl ?_)))
 rintro _ w1 ⟨b1, rfl, eb1, hb1, k1, z1⟩
 have ge_b1 : w.heap.size ≤ b1 := by have := hB.size; omega
 replace hB := hB.trans k1
 clear eb1 z1
 replace hb1 : Bk w1 b1 67 (iv .i64 64 (fun _ => 0)) := by rw [iv, bE]; exact hb1
 refine a6 (a5 (aZ (ad (a8 (vs := [_]) rfl (cv 4 (by decide) _)) rfl ?_)))
 rintro _ w2 ⟨hh1, rfl, E1, C1, k2⟩
 obtain ⟨hB, hb1⟩ := bL k2 hB hb1
 refine ad (a8 (vs := [_]) rfl (cv 5 (by decide) _)) rfl ?_
 rintro _ w3 ⟨hh2, rfl, E2, C2, k3⟩
 obtain ⟨hB, hb1⟩ := bL k3 hB hb1
 refine ad (a8 (vs := [_]) rfl (ei _ _ E2 _)) rfl ?_
 rintro _ w4 ⟨hh3, rfl, E3, k4⟩
 obtain ⟨hB, hb1⟩ := bL k4 hB hb1
 refine ad (a8 (vs := [_, _]) rfl (bp _ _ _ _ E1 E3 _)) rfl ?_
 rintro _ w5 ⟨hh4, rfl, E4, k5⟩
 obtain ⟨hB, hb1⟩ := bL k5 hB hb1
 refine ad (aj bA) rfl ?_
 rintro _ w6 ⟨b2, rfl, eb2, hb2, k6, z2⟩
 have ge_b2 : w.heap.size ≤ b2 := by have := hB.size; omega
 have ne_b1_b2 : b1 ≠ b2 := by have := hb1.lt; omega
 obtain ⟨hB, hb1⟩ := bL k6 hB hb1
 clear eb2 z2
 replace hb2 : Bk w6 b2 65 (iv .i64 16 (fun _ => 0)) := by rw [iv, bE]; exact hb2
 refine ae (bh (vs := iv .i64 16 hh4) bA rfl rfl rfl ai hb2 rfl) ?_
 rintro _ w7 ⟨hb3, k7, z3⟩
 replace hb1 := hb1.keep k7 (nm ne_b1_b2)
 replace hB := hB.new k7 (nw ge_b2)
 clear z3
 refine a6 (a5 (aZ (a7 (aa (cs' := iv .i64 16 hh4) bj bA rfl hb3 rfl rfl) rfl (ad (a8 (vs := [_]) rfl (eE _ _ E4 _)) rfl ?_))))
 rintro v1 w8 ⟨o1, k8⟩
 obtain ⟨hB, hb1⟩ := bL k8 hB hb1
 refine ad (a8 (vs := [_]) rfl (kI _ _ (by have e := o1.rd; rw [nF] at e; exact e))) rfl ?_
 rintro _ w9 ⟨hh5, rfl, E5, k9⟩
 obtain ⟨hB, hb1⟩ := bL k9 hB hb1
 refine ogm rfl rfl (a7 (bJ (vs := [_, _]) rfl rfl) rfl (a7 (bJ (vs := [_, _]) rfl rfl) rfl (ad (aj dQ) rfl ?_)))
 rintro _ w10 ⟨b3, rfl, eb3, hb4, k10, z4⟩
 have ge_b3 : w.heap.size ≤ b3 := by have := hB.size; omega
 have ne_b1_b3 : b1 ≠ b3 := by have := hb1.lt; omega
 obtain ⟨hB, hb1⟩ := bL k10 hB hb1
 clear eb3 z4
 replace hb4 : Bk w10 b3 67 (iv .i64 64 (fun _ => 0)) := by rw [iv, bE]; exact hb4
 refine ae (bh (vs := iv .i64 64 hh5) dQ rfl rfl rfl ai hb4 rfl) ?_
 rintro _ w11 ⟨hb5, k11, z5⟩
 replace hb1 := hb1.keep k11 (nm ne_b1_b3)
 replace hB := hB.new k11 (nw ge_b3)
 clear z5
 refine oga rfl rfl (a6 (a9 [(0, _), (2, _)] ⟨rfl, rfl, trivial⟩ (a5 (aZ (a7 (aa (cs' := iv .i64 64 hh5) gN dQ rfl hb5 rfl rfl) rfl (ae (bh (vs := iv .i64 64 hh5) dQ rfl rfl rfl ai hb1 rfl) ?_))))))
 rintro _ w12 ⟨hb6, k12, z6⟩
 replace hB := hB.new k12 (nw ge_b1)
 clear z6
 refine a6 (bW hfin Tryz.results40 rfl (ak gN dQ hb6 rfl)  ?_)
 exact ⟨hh5, rfl, E5, hB⟩
end Go.Proofs.YtllmbkmghmmhfaaGreatDoor.W
namespace Go.Proofs.YtllmbkmghmmhfaaGreatDoor.W
open Go Go.Eng Go.Byt
open Go.Fld Go.Ed
def HH (xs : List UInt8) : List UInt8 := Go.Sha.sum Go.Sha.cS Go.Sha.Kl Go.Sha.Hl xs
theorem et (xs : List UInt8) : (HH xs).length = 64 := by unfold HH Go.Sha.sum Go.Sha.out8; simp only [List.flatMap_cons, List.flatMap_nil, List.length_append, dG, List.length_nil]
def hashB (xs : List UInt8) : List UInt8 := leB (leI (HH xs) % 7237005577332262213973186563042994240857116359379907606001950938285454250989) 32
theorem gC (xs : List UInt8) : (hashB xs).length = 32 := eq _ _
def gB (n : List UInt8) : List UInt8 := encB (pmul (leI n).toNat basePt).1 (pmul (leI n).toNat basePt).2
theorem fo (n : List UInt8) : (gB n).length = 32 := by unfold gB encB; rw [List.length_set, bG]
attribute [irreducible] gB HH
def skB (seed : List UInt8) : List UInt8 := clampB ((HH seed).take 32)
def pxB (seed : List UInt8) : List UInt8 := (HH seed).drop 32
def pkB (seed : List UInt8) : List UInt8 := gB (skB seed)
theorem nB (xs : List UInt8) : (clampB xs).length = xs.length := by unfold clampB; rw [List.length_set, List.length_set]
theorem ik (xs : List UInt8) : ((HH xs).take 32).length = 32 := by rw [List.length_take, et]; rfl
theorem kD (xs : List UInt8) : (skB xs).length = 32 := by unfold skB; rw [nB, ik]
theorem nW (xs : List UInt8) : (pxB xs).length = 32 := by unfold pxB; rw [List.length_drop, et]
theorem nZ (xs : List UInt8) : (pkB xs).length = 32 := fo _
def rB (seed text : List UInt8) : List UInt8 := hashB (pxB seed ++ text)
def sgS (seed text : List UInt8) : List UInt8 := leB ((leI (rB seed text) + leI (hashB (gB (rB seed text) ++ pkB seed ++ text)) * leI (skB seed)) % 7237005577332262213973186563042994240857116359379907606001950938285454250989) 32
def sgB (seed text : List UInt8) : List UInt8 := gB (rB seed text) ++ sgS seed text
def dP (xs : List UInt8) : Pt := (decX xs, decY xs)
def verP (pk tx sg : List UInt8) : Pt := padd (dP (sg.take 32)) (pmul (leI (hashB (sg.take 32 ++ pk ++ tx))).toNat (dP pk))
def verE (pk tx sg : List UInt8) : Int := if pk.length ≠ 32 ∨ sg.length ≠ 64 then 1 else if decE pk ≠ 0 then 30 else if decE (sg.take 32) ≠ 0 ∨ ¬ leI (sg.drop 32) < 7237005577332262213973186563042994240857116359379907606001950938285454250989 then 31 else if gB (sg.drop 32) = encB (verP pk tx sg).1 (verP pk tx sg).2 then 0 else 31
theorem jH {w : World} {lo : Nat} {h : Value} {xs : List UInt8} (o : OwnB w lo h (HH xs)) : RdB w (cut h 32 64 1) (pxB xs) := by
 have := (show RdB w h (HH xs) from o.rd).cutB (l := 32) (hi := 64) (by decide) (by rw [et]; decide)
 rwa [List.take_of_length_le (by rw [List.length_drop, et]; decide)] at this
theorem nd {w : World} {lo : Nat} {h : Value} {xs : List UInt8} (o : OwnB w lo h (HH xs)) : RdB w (cut h 0 32 1) ((HH xs).take 32) := by
 have := (show RdB w h (HH xs) from o.rd).cutB (l := 0) (hi := 32) (by decide) (by rw [et]; decide)
 rwa [List.drop_zero] at this
theorem qy {w : World} {lo : Nat} {h : Value} {xs : List UInt8} (o : OwnB w lo h (HH xs)) : 64 ≤ vcap h := by have := o.rd.vcap.1; rwa [et] at this
theorem lm (v : Value) (xs : List UInt8) (w : World) (hT : Tabs w) (hv : RdB w v xs) (hx : xs.length ≤ 140737488354000) : Rets Tryz.prog 36 [v] w (fun r w' => OwnB w' w.heap.size r (HH xs) ∧ Keep [] w w') := by unfold HH; exact mM v xs w hT hv hx
theorem od (v : Value) (xs : List UInt8) (w : World) (hv : RdB w v xs) (hx : xs.length ≤ 140737488354000) : Rets Tryz.prog 38 [v] w (fun r w' => OwnB w' w.heap.size r (HH xs) ∧ Keep [] w w') := by unfold HH; exact lW v xs w hv hx
theorem lS (v : Value) (ls : List (List UInt8)) (lo : Nat) (w : World) (h : SlL w lo 22 v ls) (hsum : ls.flatten.length ≤ 140737488355328) : Rets Tryz.prog 42 [v] w (fun u w' => OwnB w' w.heap.size u ls.flatten ∧ Keep [] w w') := by
  obtain ⟨us, h1, h2, h3⟩ := h
  replace h3 := h3.rd
  rw [← h1] at h3
  exact nA v us ls w h3 h2 hsum
theorem iS (v : Value) (ls : List (List UInt8)) (lo : Nat) (w : World) (hT : Tabs w) (hl : SlL w lo 22 v ls) (hx : ls.flatten.length ≤ 140737488354000) : Rets Tryz.prog 19 [v] w (fun r w' => OwnB w' w.heap.size r (hashB ls.flatten) ∧ Keep [] w w') := by
 have hB : Keep [] w w := Keep.refl _ _
 refine ac Tryz.func19 rfl (by decide) Tryz.ntmps19 rfl (fun fin _ hfin => a5 (aZ (oga rfl rfl (a6 (a5 (aZ (ogm rfl rfl (ad (a8 (vs := [_]) rfl (lS _ ls _ _ hl (by omega))) rfl ?_))))))))
 rintro v1 w1 ⟨o1, k1⟩
 replace hl := hl.sD k1
 replace hB := hB.trans k1
 refine ad (a8 (vs := [_]) rfl (lm _ _ _ (hT.sD hB) o1.rd hx)) rfl ?_
 rintro v2 w2 ⟨o2, k2⟩
 replace hl := hl.sD k2
 replace hB := hB.trans k2
 refine ad (a8 (vs := [_]) rfl (lJ _ _ _ o2.rd (by rw [et]; decide))) rfl ?_
 rintro _ w3 ⟨v3, rfl, o3, k3⟩
 have gl_o3 := hB.size
 replace hl := hl.sD k3
 replace hB := hB.trans k3
 refine ogm rfl rfl (a7 (bJ (vs := [_, _]) rfl rfl) rfl (a7 (bJ (vs := [_, _]) rfl rfl) rfl (oga rfl rfl (oga rfl rfl (a6 (a9 [(3, _)] ⟨rfl, trivial⟩ (a5 (aZ (ogm rfl rfl (oga rfl rfl (a6 (bN hfin Tryz.results19 rfl ?_))))))))))))
 exact ⟨o3.lo gl_o3, hB⟩
theorem gU (v : Value) (xs : List UInt8) (w : World) (hv : RdB w v xs) (hx : xs.length = 32) : Rets Tryz.prog 20 [v] w (fun r w' => ∃ q, r = .agg (iv .u64 20 q).toArray ∧ PtR q (pmul (leI xs).toNat basePt) ∧ Keep [] w w') := by
 have hB : Keep [] w w := Keep.refl _ _
 refine ac Tryz.func20 rfl (by decide) Tryz.ntmps20 rfl (fun fin _ hfin => a5 (aZ (ad (aj bu) rfl ?_)))
 rintro _ w1 ⟨b1, rfl, eb1, hb1, k1, z1⟩
 have ge_b1 : w.heap.size ≤ b1 := by have := hB.size; omega
 replace hB := hB.trans k1
 clear eb1 z1
 replace hb1 : Bk w1 b1 53 (iv .u64 20 (fun _ => 0)) := by rw [iv, bE]; exact hb1
 refine a6 (a5 (aZ (ad (a8 (vs := []) rfl (pa _)) rfl ?_)))
 rintro _ w2 ⟨hh1, rfl, E1, k2⟩
 obtain ⟨hB, hb1⟩ := bL k2 hB hb1
 refine ogm rfl rfl (ad (a8 (vs := [_, _]) rfl (jz _ basePt _ xs E1 dt _ (hv.sD hB) hx)) rfl ?_)
 rintro _ w3 ⟨hh2, rfl, E2, k3⟩
 obtain ⟨hB, hb1⟩ := bL k3 hB hb1
 refine ogm rfl rfl (a7 (bJ (vs := [_, _]) rfl rfl) rfl (a7 (bJ (vs := [_, _]) rfl rfl) rfl (ad (aj bu) rfl ?_)))
 rintro _ w4 ⟨b2, rfl, eb2, hb2, k4, z2⟩
 have ge_b2 : w.heap.size ≤ b2 := by have := hB.size; omega
 have ne_b1_b2 : b1 ≠ b2 := by have := hb1.lt; omega
 obtain ⟨hB, hb1⟩ := bL k4 hB hb1
 clear eb2 z2
 replace hb2 : Bk w4 b2 53 (iv .u64 20 (fun _ => 0)) := by rw [iv, bE]; exact hb2
 refine ae (bh (vs := iv .u64 20 hh2) bu rfl rfl rfl ai hb2 rfl) ?_
 rintro _ w5 ⟨hb3, k5, z3⟩
 replace hb1 := hb1.keep k5 (nm ne_b1_b2)
 replace hB := hB.new k5 (nw ge_b2)
 clear z3
 refine oga rfl rfl (a6 (a5 (aZ (a7 (aa (cs' := iv .u64 20 hh2) da bu rfl hb3 rfl rfl) rfl (ae (bh (vs := iv .u64 20 hh2) bu rfl rfl rfl ai hb1 rfl) ?_)))))
 rintro _ w6 ⟨hb4, k6, z4⟩
 replace hB := hB.new k6 (nw ge_b1)
 clear z4
 refine a6 (a9 [(2, _)] ⟨rfl, trivial⟩ (bW hfin Tryz.results20 rfl (ak da bu hb4 rfl)  ?_))
 exact ⟨_, rfl, E2, hB⟩
theorem lQ {q : Nat → Int} {xs : List UInt8} (h : PtR q (pmul (leI xs).toNat basePt)) (w : World) : Rets Tryz.prog 21 [.agg (iv .u64 20 q).toArray] w (fun r w' => OwnB w' w.heap.size r (gB xs) ∧ Keep [] w w') := by unfold gB; exact PencodeR h w
theorem qQ {q : Nat → Int} {xs : List UInt8} (h : RPt q (pmul (leI xs).toNat basePt)) (w : World) : Rets Tryz.prog 35 [.agg (iv .i64 64 q).toArray] w (fun r w' => OwnB w' w.heap.size r (gB xs) ∧ Keep [] w w') := by unfold gB; exact rencodeR h w
theorem mY (v : Value) (xs : List UInt8) (w : World) (hv : RdB w v xs) (hx : xs.length = 32) : Rets Tryz.prog 18 [v] w (fun r w' => OwnB w' w.heap.size r (gB xs) ∧ Keep [] w w') := by
 have hB : Keep [] w w := Keep.refl _ _
 refine ac Tryz.func18 rfl (by decide) Tryz.ntmps18 rfl (fun fin _ hfin => a5 (aZ (oga rfl rfl (a6 (a5 (aZ (ad (a8 (vs := []) rfl (ov _)) rfl ?_)))))))
 rintro _ w1 ⟨hh1, rfl, E1, k1⟩
 replace hB := hB.trans k1
 refine ogm rfl rfl (ad (a8 (vs := [_, _]) rfl (rtimesR _ basePt _ xs E1 dt _ (hv.sD hB) hx)) rfl ?_)
 rintro _ w2 ⟨hh2, rfl, E2, k2⟩
 replace hB := hB.trans k2
 refine ogm rfl rfl (a7 (bJ (vs := [_, _]) rfl rfl) rfl (a7 (bJ (vs := [_, _]) rfl rfl) rfl (ad (aj dQ) rfl ?_)))
 rintro _ w3 ⟨b1, rfl, eb1, hb1, k3, z1⟩
 have ge_b1 : w.heap.size ≤ b1 := by have := hB.size; omega
 replace hB := hB.trans k3
 clear eb1 z1
 replace hb1 : Bk w3 b1 67 (iv .i64 64 (fun _ => 0)) := by rw [iv, bE]; exact hb1
 refine ae (bh (vs := iv .i64 64 hh2) dQ rfl rfl rfl ai hb1 rfl) ?_
 rintro _ w4 ⟨hb2, k4, z2⟩
 replace hB := hB.new k4 (nw ge_b1)
 clear z2
 refine oga rfl rfl (a6 (a5 (aZ (a7 (aa (cs' := iv .i64 64 hh2) gN dQ rfl hb2 rfl rfl) rfl (ad (a8 (vs := [_]) rfl (qQ E2 _)) rfl ?_)))))
 rintro v1 w5 ⟨o1, k5⟩
 have gl_o1 := hB.size
 replace hB := hB.trans k5
 refine oga rfl rfl (a6 (a9 [(2, _)] ⟨rfl, trivial⟩ (bN hfin Tryz.results18 rfl ?_)))
 exact ⟨o1.lo gl_o1, hB⟩
theorem pA (v : Value) (xs : List UInt8) (w : World) (hv : RdB w v xs) (hx : xs.length = 32) : Rets Tryz.prog 17 [v] w (fun r w' => ∃ a h, r = .tuple #[a, cut h 32 64 1] ∧ OwnB w' w.heap.size a (skB xs) ∧ OwnB w' w.heap.size h (HH xs) ∧ Keep [] w w') := by
 have hB : Keep [] w w := Keep.refl _ _
 refine ac Tryz.func17 rfl (by decide) Tryz.ntmps17 rfl (fun fin _ hfin => a5 (aZ (oga rfl rfl (oga rfl rfl (a6 (a5 (aZ (ogm rfl rfl (ad (a8 (vs := [_]) rfl (od _ _ _ (hv.sD hB) (by omega))) rfl ?_)))))))))
 rintro vh w1 ⟨oh, k1⟩
 have gl_oh := hB.size
 replace hB := hB.trans k1
 refine oga rfl rfl (a6 (a5 (aZ (ogm rfl rfl ?_))))
 have hcap := qy oh
 refine a7 (cT (v' := (cut vh 0 32 1)) (gM aA cf rfl oh.rd (.inl ⟨rfl, rfl⟩) (.inr ⟨_, _, rfl, rfl⟩) (by have := hcap; omega)) rfl) rfl (ad (a8 (vs := [_]) rfl (mb _ _ _ (nd oh) (ik xs))) rfl ?_)
 rintro _ w2 ⟨v1, rfl, o1, k2⟩
 have gl_o1 := hB.size
 replace oh := oh.sD k2
 replace hB := hB.trans k2
 refine ogm rfl rfl (a7 (bJ (vs := [_, _]) rfl rfl) rfl (a7 (bJ (vs := [_, _]) rfl rfl) rfl (oga rfl rfl (oga rfl rfl (a6 (a9 [(4, _), (5, _)] ⟨rfl, rfl, trivial⟩ (a5 (eJ mixed (by decide +kernel) (fun w3 k3 => ?_)))))))))
 replace oh := oh.sD k3
 replace o1 := o1.sD k3
 replace hB := hB.trans k3
 refine ao (bb rfl) rfl (ao (bb rfl) rfl (ao (cT (v' := (cut vh 32 64 1)) (gM aA cf rfl (oh.rd) (.inr ⟨_, _, rfl, rfl⟩) (.inl ⟨rfl, rfl⟩) (by rw [et]; omega)) (by rw [et]; rfl)) rfl (ao (fM rfl) rfl (ao (fM rfl) rfl (cU (a6 (dm hfin Tryz.results17 rfl rfl ?_)))))))
 exact ⟨_, _, rfl, o1.lo gl_o1, oh.lo gl_oh, hB⟩
theorem jn (v : Value) (xs : List UInt8) (w : World) (hv : RdB w v xs) (hx : xs.length ≠ 32) : Rets Tryz.prog 16 [v] w (fun r w' => r = .tuple #[.agg [.slice none 0 0, .slice none 0 0, .slice none 0 0].toArray, .int .i64 1] ∧ Keep [] w w') := by
 have hB : Keep [] w w := Keep.refl _ _
 refine ac Tryz.func16 rfl (by decide) Tryz.ntmps16 rfl (fun fin _ hfin => a5 (aZ (ad (aj gI) rfl ?_)))
 rintro _ w1 ⟨b1, rfl, eb1, hb1, k1, z1⟩
 have ge_b1 : w.heap.size ≤ b1 := by have := hB.size; omega
 replace hB := hB.trans k1
 clear eb1 z1
 refine oga rfl rfl (a6 (a5 (a5 (aZ (ogm rfl rfl (a7 (cH aA rfl (by first | assumption | exact Own.rd ‹_› | exact Rd.sD ‹_› hB | exact Own.rd (Own.sD ‹_› hB))) rfl (a7 (eU rfl rfl) rfl (a6 (bd rfl (by omega) (a5 (aZ (a7 (dJ (idx := []) (xs := []) (vs := []) (css := []) (out := [_, _, _]) pl41 gI rfl rfl trivial rfl rfl) rfl (ae (bB gI rfl rfl rfl (by simp only [List.forall_mem_cons]; refine ⟨rfl, rfl, rfl, fun v hv => by cases hv⟩) hb1 rfl) ?_)))))))))))))
 rintro _ w2 ⟨hb2, k2, z2⟩
 replace hB := hB.new k2 (nw ge_b1)
 clear z2
 replace hb2 : Bk w2 b1 _ [.slice none 0 0, .slice none 0 0, .slice none 0 0] := hb2
 refine oga rfl rfl (a6 (cQ hfin Tryz.results16 rfl (ak ag41 gI hb2 rfl) rfl ?_))
 exact ⟨rfl, hB⟩
theorem jo (v : Value) (xs : List UInt8) (w : World) (hT : Tabs w) (hv : RdB w v xs) (hx : xs.length = 32) : Rets Tryz.prog 16 [v] w (fun r w' => ∃ a h q, r = .tuple #[.agg [a, cut h 32 64 1, q].toArray, .int .i64 0] ∧ OwnB w' w.heap.size a (skB xs) ∧ OwnB w' w.heap.size h (HH xs) ∧ OwnB w' w.heap.size q (pkB xs) ∧ Keep [] w w') := by
 have hB : Keep [] w w := Keep.refl _ _
 refine ac Tryz.func16 rfl (by decide) Tryz.ntmps16 rfl (fun fin _ hfin => a5 (aZ (ad (aj gI) rfl ?_)))
 rintro _ w1 ⟨b1, rfl, eb1, hb1, k1, z1⟩
 have ge_b1 : w.heap.size ≤ b1 := by have := hB.size; omega
 replace hB := hB.trans k1
 clear eb1 z1
 refine oga rfl rfl (a6 (a5 (a5 (aZ (ogm rfl rfl (a7 (cH aA rfl (by first | assumption | exact Own.rd ‹_› | exact Rd.sD ‹_› hB | exact Own.rd (Own.sD ‹_› hB))) rfl (a7 (eU rfl rfl) rfl (a6 (ck rfl (by omega) (ag (a5 (aZ (ogm rfl rfl (ad (a8 (vs := [_]) rfl (lm _ _ _ (hT.sD hB) (hv.sD hB) (by omega))) rfl ?_))))))))))))))
 rintro vh w2 ⟨oh, k2⟩
 have gl_oh := hB.size
 have sb_b1_oh := fun x hx => (show x ≠ b1 from by have h1 := (oh.blk x hx).1; have h2 := hb1.lt; omega)
 obtain ⟨hB, hb1⟩ := bL k2 hB hb1
 refine oga rfl rfl (a6 (a5 (aZ (ogm rfl rfl ?_))))
 have hcap := qy oh
 refine a7 (cT (v' := (cut vh 0 32 1)) (gM aA cf rfl oh.rd (.inl ⟨rfl, rfl⟩) (.inr ⟨_, _, rfl, rfl⟩) (by have := hcap; omega)) rfl) rfl (ad (a8 (vs := [_]) rfl (pV _ _ _ (nd oh) (ik xs))) rfl ?_)
 rintro _ w3 ⟨va, rfl, oa, k3⟩
 have gl_oa := hB.size
 have sb_b1_oa := fun x hx => (show x ≠ b1 from by have h1 := (oa.blk x hx).1; have h2 := hb1.lt; omega)
 replace hb1 := hb1.sD k3
 replace oh := oh.sD k3
 replace hB := hB.trans k3
 refine ogm rfl rfl (a7 (bJ (vs := [_, _]) rfl rfl) rfl (a7 (bJ (vs := [_, _]) rfl rfl) rfl (oga rfl rfl (oga rfl rfl (a6 (a9 [(2, _), (4, _), (5, _)] ⟨rfl, rfl, rfl, trivial⟩ (a5 (bc 8 [0, 1, 2, 3, 4, 5, 6, 7] [5, 6] [] mixed [(5, _), (4, _), (2, _)] ⟨rfl, rfl, rfl, trivial⟩ (by decide +kernel) rfl (fun w4 k4 => ?_)))))))))
 replace hb1 := hb1.sD k4
 replace oh := oh.sD k4
 replace oa := oa.sD k4
 replace hB := hB.trans k4
 refine bH 5 rfl rfl rfl rfl rfl (bH 4 rfl rfl rfl rfl rfl (am 20 rfl rfl rfl rfl (fun W' kk => cT (v' := (cut vh 32 64 1)) (gM aA cf rfl ((oh.sD kk).rd) (.inr ⟨_, _, rfl, rfl⟩) (.inl ⟨rfl, rfl⟩) (by rw [et]; omega)) (by rw [et]; rfl)) (cE 19 21 rfl rfl rfl rfl rfl (fun W' kk => dJ (idx := [0, 1]) (xs := [.tmp 19, .tmp 21]) (vs := [_, _]) (css := [[_], [_]]) (out := [_, _]) pl39 ty39 rfl rfl ⟨Rd.cells (oa.sD kk).rd, Rd.cells (jH (oh.sD kk)), trivial⟩ rfl rfl) (bH 5 rfl rfl rfl rfl rfl (bq [(23, _)] rfl rfl ⟨rfl, trivial⟩ rfl (a8 (vs := [_]) rfl (gU _ (skB xs) _ oa.rd (kD xs))) ?_)))))
 rintro _ w5 ⟨hh1, rfl, E1, k5⟩
 refine ⟨k5, ?_⟩
 replace hb1 := hb1.sD k5
 replace oh := oh.sD k5
 replace oa := oa.sD k5
 replace hB := hB.trans k5
 refine bq [(24, _)] rfl rfl ⟨rfl, trivial⟩ rfl (a8 (vs := [_]) rfl (lQ E1 _)) ?_
 rintro v1 w6 ⟨o1, k6⟩
 refine ⟨k6, ?_⟩
 have gl_o1 := hB.size
 have sb_b1_o1 := fun x hx => (show x ≠ b1 from by have h1 := (o1.blk x hx).1; have h2 := hb1.lt; omega)
 replace hb1 := hb1.sD k6
 replace oh := oh.sD k6
 replace oa := oa.sD k6
 replace hB := hB.trans k6
 have rcut := jH oh
 refine cE 22 25 rfl rfl rfl rfl rfl (fun W' kk => dJ (idx := [0, 1]) (xs := [.tmp 22, .tmp 25]) (vs := [_, _]) (css := [[_, _], [_]]) (out := [_, _, _]) pl41 gI rfl rfl ⟨rfl, Rd.cells (by first | exact Rd.sD ‹_› kk | exact Rd.sD (Own.rd ‹_›) kk | exact Rd.sD (Rd.sD ‹_› hB) kk | exact Rd.sD (Own.rd (Own.sD ‹_› hB)) kk), trivial⟩ rfl rfl) (bx (ae (bB gI rfl rfl rfl (by simp only [List.forall_mem_cons]; refine ⟨(by first | rfl | exact Rd.one (by first | assumption | exact Own.rd ‹_› | exact Rd.sD ‹_› hB | exact Own.rd (Own.sD ‹_› hB))), (by first | rfl | exact Rd.one (by first | assumption | exact Own.rd ‹_› | exact Rd.sD ‹_› hB | exact Own.rd (Own.sD ‹_› hB))), (by first | rfl | exact Rd.one (by first | assumption | exact Own.rd ‹_› | exact Rd.sD ‹_› hB | exact Own.rd (Own.sD ‹_› hB))), fun v hv => by cases hv⟩) hb1 rfl) ?_))
 rintro _ w7 ⟨hb2, k7, z2⟩
 replace oh := oh.keep k7 (fun x hx hm => sb_b1_oh x hx (List.mem_singleton.1 hm))
 replace oa := oa.keep k7 (fun x hx hm => sb_b1_oa x hx (List.mem_singleton.1 hm))
 replace o1 := o1.keep k7 (fun x hx hm => sb_b1_o1 x hx (List.mem_singleton.1 hm))
 replace hB := hB.new k7 (nw ge_b1)
 clear z2
 replace hb2 : Bk w7 b1 _ [va, (cut vh 32 64 1), v1] := hb2
 refine oga rfl rfl (a6 (a9 [(2, _), (3, _)] ⟨rfl, rfl, trivial⟩ (cQ hfin Tryz.results16 rfl (ak ag41 gI hb2 rfl) rfl ?_)))
 exact ⟨va, vh, _, rfl, oa.lo gl_oa, oh.lo gl_oh, o1.lo gl_o1, hB⟩
theorem qA (v : Value) (a b : List UInt8) (lo : Nat) (w : World) (hT : Tabs w) (hl : SlL w lo 22 v [a, b]) (hx : a.length + b.length ≤ 140737488354000) : Rets Tryz.prog 19 [v] w (fun r w' => OwnB w' w.heap.size r (hashB (a ++ b)) ∧ Keep [] w w') := by
  have h := iS v [a, b] lo w hT hl (by simpa using hx)
  simpa using h
theorem lM (v : Value) (a b c : List UInt8) (lo : Nat) (w : World) (hT : Tabs w) (hl : SlL w lo 22 v [a, b, c]) (hx : a.length + b.length + c.length ≤ 140737488354000) : Rets Tryz.prog 19 [v] w (fun r w' => OwnB w' w.heap.size r (hashB (a ++ b ++ c)) ∧ Keep [] w w') := by
  have h := iS v [a, b, c] lo w hT hl (by simp only [List.flatten_cons, List.flatten_nil, List.length_append, List.length_nil]; omega)
  simpa using h
def pkE (xs : List UInt8) : Int := if xs.length = 32 then 0 else 1
def pkR (xs : List UInt8) : List UInt8 := if xs.length = 32 then pkB xs else []
def sgE (xs : List UInt8) : Int := if xs.length = 32 then 0 else 1
def sgR (xs ys : List UInt8) : List UInt8 := if xs.length = 32 then sgB xs ys else []
theorem spub_32 (v : Value) (xs : List UInt8) (w : World) (hT : Tabs w) (hv : RdB w v xs) (hx : xs.length = 32) : Rets Tryz.prog 7 [v] w (fun r w' => ∃ u, r = .tuple #[u, .int .i64 (pkE xs)] ∧ OwnB w' w.heap.size u (pkR xs) ∧ Keep [] w w') := by
 have hB : Keep [] w w := Keep.refl _ _
 refine ac Tryz.func7 rfl (by decide) Tryz.ntmps7 rfl (fun fin _ hfin => a5 (aZ (oga rfl rfl (oga rfl rfl (a6 (a5 (aZ (ogm rfl rfl (ad (a8 (vs := [_]) rfl (jo _ xs _ (hT.sD hB) (hv.sD hB) hx)) rfl ?_)))))))))
 rintro _ w1 ⟨va, vh, vq, rfl, oa, oh, oq, k1⟩
 have gl_oq := hB.size
 replace hB := hB.trans k1
 refine ogm rfl rfl (a7 (bJ (vs := [_, _]) rfl rfl) rfl (a7 (bJ (vs := [_, _]) rfl rfl) rfl (ad (aj gI) rfl ?_)))
 rintro _ w2 ⟨b1, rfl, eb1, hb1, k2, z1⟩
 have ge_b1 : w.heap.size ≤ b1 := by have := hB.size; omega
 have sb_b1_oa := fun x hx => (show x ≠ b1 from by have := (oa.blk x hx).2; omega)
 have sb_b1_oh := fun x hx => (show x ≠ b1 from by have := (oh.blk x hx).2; omega)
 have sb_b1_oq := fun x hx => (show x ≠ b1 from by have := (oq.blk x hx).2; omega)
 replace oa := oa.sD k2
 replace oh := oh.sD k2
 replace oq := oq.sD k2
 replace hB := hB.trans k2
 clear eb1 z1
 have rcut := jH oh
 refine ae (bB gI rfl rfl rfl (by simp only [List.forall_mem_cons]; refine ⟨(by first | rfl | exact Rd.one (by first | assumption | exact Own.rd ‹_› | exact Rd.sD ‹_› hB | exact Own.rd (Own.sD ‹_› hB))), (by first | rfl | exact Rd.one (by first | assumption | exact Own.rd ‹_› | exact Rd.sD ‹_› hB | exact Own.rd (Own.sD ‹_› hB))), (by first | rfl | exact Rd.one (by first | assumption | exact Own.rd ‹_› | exact Rd.sD ‹_› hB | exact Own.rd (Own.sD ‹_› hB))), fun v hv => by cases hv⟩) hb1 rfl) ?_
 rintro _ w3 ⟨hb2, k3, z2⟩
 replace oa := oa.keep k3 (fun x hx hm => sb_b1_oa x hx (List.mem_singleton.1 hm))
 replace oh := oh.keep k3 (fun x hx hm => sb_b1_oh x hx (List.mem_singleton.1 hm))
 replace oq := oq.keep k3 (fun x hx hm => sb_b1_oq x hx (List.mem_singleton.1 hm))
 replace hB := hB.new k3 (nw ge_b1)
 clear z2
 replace hb2 : Bk w3 b1 _ [va, (cut vh 32 64 1), vq] := hb2
 refine oga rfl rfl (a6 (a5 (aZ (a7 (ax 2 Tryz.underlying41 rfl j3 (by decide) rfl rfl) rfl (a7 (ah mR rfl hb2 rfl) rfl (ogm rfl rfl (oga rfl rfl (oga rfl rfl (a6 (a9 [(2, _), (3, _)] ⟨rfl, rfl, trivial⟩ (dm hfin Tryz.results7 rfl rfl ?_)))))))))))
 rw [show pkE xs = 0 from if_pos hx, show pkR xs = pkB xs from if_pos hx]
 exact ⟨_, rfl, oq.lo gl_oq, hB⟩
theorem spub_no (v : Value) (xs : List UInt8) (w : World) (hv : RdB w v xs) (hx : ¬ xs.length = 32) : Rets Tryz.prog 7 [v] w (fun r w' => ∃ u, r = .tuple #[u, .int .i64 (pkE xs)] ∧ OwnB w' w.heap.size u (pkR xs) ∧ Keep [] w w') := by
 have hB : Keep [] w w := Keep.refl _ _
 refine ac Tryz.func7 rfl (by decide) Tryz.ntmps7 rfl (fun fin _ hfin => a5 (aZ (oga rfl rfl (oga rfl rfl (a6 (a5 (aZ (ogm rfl rfl (ad (a8 (vs := [_]) rfl (jn _ xs _ (hv.sD hB) hx)) rfl ?_)))))))))
 rintro _ w1 ⟨rfl, k1⟩
 replace hB := hB.trans k1
 refine ogm rfl rfl (a7 (bJ (vs := [_, _]) rfl rfl) rfl (a7 (bJ (vs := [_, _]) rfl rfl) rfl (ad (aj gI) rfl ?_)))
 rintro _ w2 ⟨b1, rfl, eb1, hb1, k2, z1⟩
 have ge_b1 : w.heap.size ≤ b1 := by have := hB.size; omega
 replace hB := hB.trans k2
 clear eb1 z1
 refine ae (bB gI rfl rfl rfl (by simp only [List.forall_mem_cons]; refine ⟨rfl, rfl, rfl, fun v hv => by cases hv⟩) hb1 rfl) ?_
 rintro _ w3 ⟨hb2, k3, z2⟩
 replace hB := hB.new k3 (nw ge_b1)
 clear z2
 replace hb2 : Bk w3 b1 _ [.slice none 0 0, .slice none 0 0, .slice none 0 0] := hb2
 refine oga rfl rfl (a6 (a5 (aZ (a7 (ax 2 Tryz.underlying41 rfl j3 (by decide) rfl rfl) rfl (a7 (ah mR rfl hb2 rfl) rfl (ogm rfl rfl (oga rfl rfl (oga rfl rfl (a6 (a9 [(2, _), (3, _)] ⟨rfl, rfl, trivial⟩ (dm hfin Tryz.results7 rfl rfl ?_)))))))))))
 rw [show pkE xs = 1 from if_neg hx, show pkR xs = [] from if_neg hx]
 exact ⟨_, rfl, dO _ _ _ _, hB⟩
theorem lL (v : Value) (xs : List UInt8) (w : World) (hT : Tabs w) (hv : RdB w v xs) : Rets Tryz.prog 7 [v] w (fun r w' => ∃ u, r = .tuple #[u, .int .i64 (pkE xs)] ∧ OwnB w' w.heap.size u (pkR xs) ∧ Keep [] w w') := by
  by_cases hx : xs.length = 32
  · exact spub_32 v xs w hT hv hx
  · exact spub_no v xs w hv hx
theorem qI (v : Value) (xs : List UInt8) (w : World) (hv : RdB w v xs) : Rets Tryz.prog 8 [v] w (fun r w' => ∃ u, r = .tuple #[u, .int .i64 (pkE xs)] ∧ OwnB w' w.heap.size u (pkR xs) ∧ Keep [] w w') := by
 have hB : Keep [] w w := Keep.refl _ _
 refine ac Tryz.func8 rfl (by decide) Tryz.ntmps8 rfl (fun fin _ hfin => a5 (aZ (oga rfl rfl (oga rfl rfl (a6 (a5 (a5 (aZ (ogm rfl rfl (a7 (cH aA rfl (by first | assumption | exact Own.rd ‹_› | exact Rd.sD ‹_› hB | exact Own.rd (Own.sD ‹_› hB))) rfl (a7 (eU rfl rfl) rfl (a6 (ba rfl (fun hc1 => ?_) (fun hc1 => ?_))))))))))))))
 ·
  refine a5 (aZ (oga rfl rfl (oga rfl rfl (a6 (dm hfin Tryz.results8 rfl rfl ?_)))))
  have hx : ¬ xs.length = 32 := by omega
  rw [show pkE xs = 1 from if_neg hx, show pkR xs = [] from if_neg hx]
  exact ⟨_, rfl, dO _ _ _ _, hB⟩
 ·
  refine ag (a5 (aZ (ogm rfl rfl (ad (a8 (vs := [_]) rfl (pA _ xs _ (hv.sD hB) (by omega))) rfl ?_))))
  rintro _ w1 ⟨va, vh, rfl, oa, oh, k1⟩
  replace hB := hB.trans k1
  refine ogm rfl rfl (a7 (bJ (vs := [_, _]) rfl rfl) rfl (a7 (bJ (vs := [_, _]) rfl rfl) rfl (oga rfl rfl (oga rfl rfl (a6 (a9 [(4, _)] ⟨rfl, trivial⟩ (a5 (aZ (ogm rfl rfl (ad (a8 (vs := [_]) rfl (mY _ (skB xs) _ oa.rd (kD xs))) rfl ?_))))))))))
  rintro v1 w2 ⟨o1, k2⟩
  have gl_o1 := hB.size
  replace oa := oa.sD k2
  replace oh := oh.sD k2
  replace hB := hB.trans k2
  refine oga rfl rfl (oga rfl rfl (a6 (dm hfin Tryz.results8 rfl rfl ?_)))
  have hx : xs.length = 32 := by omega
  rw [show pkE xs = 0 from if_pos hx, show pkR xs = pkB xs from if_pos hx]
  exact ⟨_, rfl, o1.lo gl_o1, hB⟩
theorem px (v vt : Value) (xs ys : List UInt8) (w : World) (hT : Tabs w) (hv : RdB w v xs) (hy : RdB w vt ys) (hyl : ys.length ≤ 140737488351232) (hx : xs.length = 32) : Rets Tryz.prog 12 [v, vt] w (fun r w' => ∃ u, r = .tuple #[u, .int .i64 (sgE xs)] ∧ OwnB w' w.heap.size u (sgR xs ys) ∧ Keep [] w w') := by
 have hB : Keep [] w w := Keep.refl _ _
 refine ac Tryz.func12 rfl (by decide) Tryz.ntmps12 rfl (fun fin _ hfin => a5 (aZ (oga rfl rfl (oga rfl rfl (a6 (a5 (aZ (ogm rfl rfl (ad (a8 (vs := [_]) rfl (jo _ xs _ (hT.sD hB) (hv.sD hB) hx)) rfl ?_)))))))))
 rintro _ w1 ⟨va, vh, vq, rfl, oa, oh, oq, k1⟩
 replace hB := hB.trans k1
 refine ogm rfl rfl (a7 (bJ (vs := [_, _]) rfl rfl) rfl (a7 (bJ (vs := [_, _]) rfl rfl) rfl (ad (aj gI) rfl ?_)))
 rintro _ w2 ⟨b1, rfl, eb1, hb1, k2, z1⟩
 have ge_b1 : w.heap.size ≤ b1 := by have := hB.size; omega
 have sb_b1_oa := fun x hx => (show x ≠ b1 from by have := (oa.blk x hx).2; omega)
 have sb_b1_oh := fun x hx => (show x ≠ b1 from by have := (oh.blk x hx).2; omega)
 have sb_b1_oq := fun x hx => (show x ≠ b1 from by have := (oq.blk x hx).2; omega)
 replace oa := oa.sD k2
 replace oh := oh.sD k2
 replace oq := oq.sD k2
 replace hB := hB.trans k2
 clear eb1 z1
 have rcut := jH oh
 refine ae (bB gI rfl rfl rfl (by simp only [List.forall_mem_cons]; refine ⟨(by first | rfl | exact Rd.one (by first | assumption | exact Own.rd ‹_› | exact Rd.sD ‹_› hB | exact Own.rd (Own.sD ‹_› hB))), (by first | rfl | exact Rd.one (by first | assumption | exact Own.rd ‹_› | exact Rd.sD ‹_› hB | exact Own.rd (Own.sD ‹_› hB))), (by first | rfl | exact Rd.one (by first | assumption | exact Own.rd ‹_› | exact Rd.sD ‹_› hB | exact Own.rd (Own.sD ‹_› hB))), fun v hv => by cases hv⟩) hb1 rfl) ?_
 rintro _ w3 ⟨hb2, k3, z2⟩
 replace oa := oa.keep k3 (fun x hx hm => sb_b1_oa x hx (List.mem_singleton.1 hm))
 replace oh := oh.keep k3 (fun x hx hm => sb_b1_oh x hx (List.mem_singleton.1 hm))
 replace oq := oq.keep k3 (fun x hx hm => sb_b1_oq x hx (List.mem_singleton.1 hm))
 replace hB := hB.new k3 (nw ge_b1)
 clear z2
 replace hb2 : Bk w3 b1 _ [va, (cut vh 32 64 1), vq] := hb2
 refine oga rfl rfl (a6 (a5 (a5 (aZ (ogm rfl rfl (a7 (eU rfl rfl) rfl (a6 (ck rfl (by decide) (ag (a5 (aZ (a7 (ax 0 Tryz.underlying41 rfl ty39 (by decide) rfl rfl) rfl (a7 (ax 1 Tryz.underlying39 rfl j3 (by decide) rfl rfl) rfl (a7 (ah mR rfl hb2 rfl) rfl (ogm rfl rfl ?_)))))))))))))))
 have rcut := jH oh
 refine ad (ra (m := 2) (ls := [pxB xs, ys]) (xs := [.tmp 22, .tmp 23]) (us := [_, _]) aX j3 rfl rfl (eb (by first | exact Rd.nil _ _ | exact (by first | assumption | exact Own.rd ‹_› | exact Rd.sD ‹_› hB | exact Own.rd (Own.sD ‹_› hB))) (eb (by first | exact Rd.nil _ _ | exact (by first | assumption | exact Own.rd ‹_› | exact Rd.sD ‹_› hB | exact Own.rd (Own.sD ‹_› hB))) (kJ _))) rfl rfl) rfl ?_
 rintro v1 w4 ⟨sl1, k4⟩
 replace oa := oa.sD k4
 replace oh := oh.sD k4
 replace oq := oq.sD k4
 obtain ⟨hB, hb2⟩ := bL k4 hB hb2
 refine ad (a8 (vs := [_]) rfl (qA _ (pxB xs) ys _ _ (hT.sD hB) sl1 (by have a := nW xs; have b := nZ xs; have c := fo (rB xs ys); omega))) rfl ?_
 rintro vr w5 ⟨ovr, k5⟩
 replace oa := oa.sD k5
 replace oh := oh.sD k5
 replace oq := oq.sD k5
 replace hb2 := hb2.sD k5
 replace sl1 := sl1.sD k5
 replace hB := hB.trans k5
 refine oga rfl rfl (a6 (a9 [(1, _), (6, _), (8, _)] ⟨rfl, rfl, rfl, trivial⟩ (a5 (aZ (ogm rfl rfl (ad (a8 (vs := [_]) rfl (gU _ (rB xs ys) _ ovr.rd (gC _))) rfl ?_))))))
 rintro _ w6 ⟨hh1, rfl, E1, k6⟩
 replace oa := oa.sD k6
 replace oh := oh.sD k6
 replace oq := oq.sD k6
 replace hb2 := hb2.sD k6
 replace sl1 := sl1.sD k6
 replace ovr := ovr.sD k6
 replace hB := hB.trans k6
 refine ad (a8 (vs := [_]) rfl (lQ E1 _)) rfl ?_
 rintro vbig w7 ⟨obig, k7⟩
 have gl_obig := hB.size
 replace oa := oa.sD k7
 replace oh := oh.sD k7
 replace oq := oq.sD k7
 replace hb2 := hb2.sD k7
 replace sl1 := sl1.sD k7
 replace ovr := ovr.sD k7
 replace hB := hB.trans k7
 refine oga rfl rfl (a6 (a5 (bc 15 [0, 1, 2, 3, 6, 7, 8, 9, 4, 5, 10, 11, 12, 13, 14] [4, 5, 10] [] mixed [(9, _), (6, _), (1, _), (8, _)] ⟨rfl, rfl, rfl, rfl, trivial⟩ (by decide +kernel) rfl (fun w8 k8 => ?_))))
 replace oa := oa.sD k8
 replace oh := oh.sD k8
 replace oq := oq.sD k8
 replace hb2 := hb2.sD k8
 replace sl1 := sl1.sD k8
 replace ovr := ovr.sD k8
 replace obig := obig.sD k8
 replace hB := hB.trans k8
 refine bH 9 rfl rfl rfl rfl rfl (am 6 rfl rfl rfl rfl (fun W' kk => ax 2 Tryz.underlying41 rfl j3 (by decide) rfl rfl) (am 31 rfl rfl rfl rfl (fun W' kk => ah mR rfl (Bk.sD hb2 kk) rfl) (bH 1 rfl rfl rfl rfl rfl (am 6 rfl rfl rfl rfl (fun W' kk => ax 0 Tryz.underlying41 rfl ty39 (by decide) rfl rfl) (am 36 rfl rfl rfl rfl (fun W' kk => ax 0 Tryz.underlying39 rfl j3 (by decide) rfl rfl) (am 37 rfl rfl rfl rfl (fun W' kk => ah mR rfl (Bk.sD hb2 kk) rfl) (bH 8 rfl rfl rfl rfl rfl (bq [(30, _), (32, _), (33, _)] rfl rfl ⟨rfl, rfl, rfl, trivial⟩ rfl (ra (m := 3) (ls := [gB (rB xs ys), pkB xs, ys]) (xs := [.tmp 30, .tmp 32, .tmp 33]) (us := [_, _, _]) aX j3 rfl rfl (eb (by first | exact Rd.nil _ _ | exact (by first | assumption | exact Own.rd ‹_› | exact Rd.sD ‹_› hB | exact Own.rd (Own.sD ‹_› hB))) (eb (by first | exact Rd.nil _ _ | exact (by first | assumption | exact Own.rd ‹_› | exact Rd.sD ‹_› hB | exact Own.rd (Own.sD ‹_› hB))) (eb (by first | exact Rd.nil _ _ | exact (by first | assumption | exact Own.rd ‹_› | exact Rd.sD ‹_› hB | exact Own.rd (Own.sD ‹_› hB))) (kJ _)))) rfl rfl) ?_))))))))
 rintro v2 w9 ⟨sl2, k9⟩
 refine ⟨k9, ?_⟩
 replace oa := oa.sD k9
 replace oh := oh.sD k9
 replace oq := oq.sD k9
 replace sl1 := sl1.sD k9
 replace ovr := ovr.sD k9
 replace obig := obig.sD k9
 replace hB := hB.trans k9
 refine bq [(34, _)] rfl rfl ⟨rfl, trivial⟩ rfl (a8 (vs := [_]) rfl (lM _ (gB (rB xs ys)) (pkB xs) ys _ _ (hT.sD hB) sl2 (by have a := nW xs; have b := nZ xs; have c := fo (rB xs ys); omega))) ?_
 rintro vn w10 ⟨ovn, k10⟩
 refine ⟨k10, ?_⟩
 replace oa := oa.sD k10
 replace oh := oh.sD k10
 replace oq := oq.sD k10
 replace sl1 := sl1.sD k10
 replace ovr := ovr.sD k10
 replace obig := obig.sD k10
 replace sl2 := sl2.sD k10
 replace hB := hB.trans k10
 refine bq [(35, _), (38, _), (39, _)] rfl rfl ⟨rfl, rfl, rfl, trivial⟩ rfl (a8 (vs := [_, _, _]) rfl (mP _ _ _ _ (skB xs) (rB xs ys) _ ovn.rd oa.rd ovr.rd (gC _) (kD _) (gC _))) ?_
 rintro _ w11 ⟨v3, rfl, o3, k11⟩
 refine ⟨k11, ?_⟩
 replace oa := oa.sD k11
 replace oh := oh.sD k11
 replace oq := oq.sD k11
 replace sl1 := sl1.sD k11
 replace ovr := ovr.sD k11
 replace obig := obig.sD k11
 replace sl2 := sl2.sD k11
 replace ovn := ovn.sD k11
 replace hB := hB.trans k11
 refine bH 40 rfl rfl rfl rfl rfl (am 29 rfl rfl rfl rfl (fun W' kk => bJ (vs := [_, _]) rfl rfl) (am 29 rfl rfl rfl rfl (fun W' kk => bJ (vs := [_, _]) rfl rfl) (am 41 rfl rfl rfl rfl (fun W' kk => fM rfl) (bx (oga rfl rfl (a6 (a9 [(9, _), (10, _)] ⟨rfl, rfl, trivial⟩ (a5 (aZ (ogm rfl rfl (ogm rfl rfl (ad (eI (ys := sgS xs ys) aA cf rfl (obig.lo gl_obig) rfl o3.rd (by rw [fo]; show 32 + (leB _ 32).length ≤ _; rw [eq]; decide) (by have := hB.size; omega)) rfl ?_))))))))))))
 rintro vx wx ⟨ox, kx, _, _⟩
 replace hB := hB.new kx (fun x hx => .inl ((obig.lo gl_obig).blk x hx).1)
 replace ox : OwnB wx w.heap.size vx (sgB xs ys) := by unfold OwnB sgB; rw [List.length_append]; exact ox
 refine oga rfl rfl (oga rfl rfl (a6 (dm hfin Tryz.results12 rfl rfl ?_)))
 rw [show sgE xs = 0 from if_pos hx, show sgR xs ys = sgB xs ys from if_pos hx]
 exact ⟨_, rfl, ox, hB⟩
theorem pv (v vt : Value) (xs ys : List UInt8) (w : World) (hv : RdB w v xs) (hx : ¬ xs.length = 32) : Rets Tryz.prog 12 [v, vt] w (fun r w' => ∃ u, r = .tuple #[u, .int .i64 (sgE xs)] ∧ OwnB w' w.heap.size u (sgR xs ys) ∧ Keep [] w w') := by
 have hB : Keep [] w w := Keep.refl _ _
 refine ac Tryz.func12 rfl (by decide) Tryz.ntmps12 rfl (fun fin _ hfin => a5 (aZ (oga rfl rfl (oga rfl rfl (a6 (a5 (aZ (ogm rfl rfl (ad (a8 (vs := [_]) rfl (jn _ xs _ (hv.sD hB) hx)) rfl ?_)))))))))
 rintro _ w1 ⟨rfl, k1⟩
 replace hB := hB.trans k1
 refine ogm rfl rfl (a7 (bJ (vs := [_, _]) rfl rfl) rfl (a7 (bJ (vs := [_, _]) rfl rfl) rfl (ad (aj gI) rfl ?_)))
 rintro _ w2 ⟨b1, rfl, eb1, hb1, k2, z1⟩
 have ge_b1 : w.heap.size ≤ b1 := by have := hB.size; omega
 replace hB := hB.trans k2
 clear eb1 z1
 refine ae (bB gI rfl rfl rfl (by simp only [List.forall_mem_cons]; refine ⟨rfl, rfl, rfl, fun v hv => by cases hv⟩) hb1 rfl) ?_
 rintro _ w3 ⟨hb2, k3, z2⟩
 replace hB := hB.new k3 (nw ge_b1)
 clear z2
 replace hb2 : Bk w3 b1 _ [.slice none 0 0, .slice none 0 0, .slice none 0 0] := hb2
 refine oga rfl rfl (a6 (a5 (a5 (aZ (ogm rfl rfl (a7 (eU rfl rfl) rfl (a6 (bd rfl (by decide) (a5 (aZ (ogm rfl rfl (oga rfl rfl (oga rfl rfl (a6 (a9 [(4, _), (5, _)] ⟨rfl, rfl, trivial⟩ (dm hfin Tryz.results12 rfl rfl ?_))))))))))))))))
 rw [show sgE xs = 1 from if_neg hx, show sgR xs ys = [] from if_neg hx]
 exact ⟨_, rfl, dO _ _ _ _, hB⟩
theorem oT (v vt : Value) (xs ys : List UInt8) (w : World) (hT : Tabs w) (hv : RdB w v xs) (hy : RdB w vt ys) (hyl : ys.length ≤ 140737488351232) : Rets Tryz.prog 12 [v, vt] w (fun r w' => ∃ u, r = .tuple #[u, .int .i64 (sgE xs)] ∧ OwnB w' w.heap.size u (sgR xs ys) ∧ Keep [] w w') := by
  by_cases hx : xs.length = 32
  · exact px v vt xs ys w hT hv hy hyl hx
  · exact pv v vt xs ys w hv hx
end Go.Proofs.YtllmbkmghmmhfaaGreatDoor.W
namespace Go.Proofs.YtllmbkmghmmhfaaGreatDoor.W
open Go Go.Eng Go.Byt Go.Fld Go.Ed
attribute [local irreducible] encB
theorem kp (y : Fp) : decV y ≠ 0 := by
 rw [iN]
 intro h
 have hy : y ≠ 0 := by
   rintro rfl
   have e : d * (0 * 0) + 1 = (1 : Fp) := by generalize d = q; grind -lia -linarith
   rw [e] at h; exact kQ h
 have hi := cd hy
 have him := im_sq
 refine n0 (im * inv y) ?_
 generalize inv y = i at *
 generalize im = m at *
 generalize d = q at *
 have h2 : q * (y * y) = -1 := by grind -lia -linarith
 have h3 : q = q * (y * i) * (y * i) := by rw [hi]; grind -lia -linarith
 have h4 : q = (q * (y * y)) * (i * i) := by grind -lia -linarith
 rw [h4, h2]
 grind -lia -linarith
theorem nV {u v : Fp} (h : rootOk u v = true) : rootF u v * rootF u v = u * inv v := by
 have h1 : cu (u * inv v) * cu (u * inv v) = u * inv v := by
   unfold rootOk at h
   simp only [Bool.and_eq_true] at h
   exact of_decide_eq_true h.1
 unfold rootF
 rw [h, cond_true]
 split
 · generalize cu (u * inv v) = r at *
   rw [← h1]; grind -lia -linarith
 · exact h1
theorem n3 (r : Fp) (hz : r.val ≠ 0) : (0 - r).val % 2 = 1 ↔ r.val % 2 = 0 := by
 have hr := r.isLt
 have e : (0 - r).val = ((P - r.val) + (0 : Fp).val) % P := by rw [Fin.sub_def]
 have z : (0 : Fp).val = 0 := rfl
 have hP : P % 2 = 1 := by decide +kernel
 have key : ∀ q n : Nat, n ≠ 0 → n < q → q % 2 = 1 → ((q - n) % q % 2 = 1 ↔ n % 2 = 0) := by
   intro q n h1 h2 h3
   rw [Nat.mod_eq_of_lt (show q - n < q by omega)]; omega
 rw [e, z, Nat.add_zero]
 exact key P r.val hz hr hP
theorem oc {u v : Fp} (h : rootOk u v = true) : ¬ oddF (rootF u v) := by
 unfold rootF
 rw [h, cond_true]
 split
 · rename_i ho
   generalize cu (u * inv v) = r at *
   unfold oddF at *
   rw [n3 r (by omega)]; omega
 · assumption
theorem pT {xs : List UInt8} (h : decE xs = 0) : xs.length = 32 ∧ fpB (decY xs) = decLow xs ∧ rootOk (decU (decY xs)) (decV (decY xs)) = true ∧ (decOdd xs = true → rootF (decU (decY xs)) (decV (decY xs)) ≠ 0) := by
 unfold decE at h
 by_cases h1 : xs.length = 32
 · rw [if_neg (by omega)] at h
   by_cases h2 : fpB (decY xs) = decLow xs
   · rw [if_neg (by simpa using h2)] at h
     cases h3 : (!rootOk (decU (decY xs)) (decV (decY xs)) || (decOdd xs && decide (rootF (decU (decY xs)) (decV (decY xs)) = 0))) with
     | true => rw [h3, if_pos rfl] at h; cases h
     | false =>
       simp only [Bool.or_eq_false_iff, Bool.not_eq_false', Bool.and_eq_false_iff, decide_eq_false_iff_not] at h3
       refine ⟨h1, h2, h3.1, fun ho => ?_⟩
       rcases h3.2 with h4 | h4
       · rw [ho] at h4; cases h4
       · exact h4
   · rw [if_pos h2] at h; cases h
 · rw [if_pos h1] at h; cases h
theorem decX_sq {xs : List UInt8} (h : decE xs = 0) : decX xs * decX xs = decU (decY xs) * inv (decV (decY xs)) := by
 obtain ⟨_, _, h3, _⟩ := pT h
 have hs := nV h3
 unfold decX
 split
 · generalize rootF (decU (decY xs)) (decV (decY xs)) = r at *
   rw [← hs]; grind -lia -linarith
 · exact hs
theorem dec_on {xs : List UInt8} (h : decE xs = 0) : OnP (decX xs, decY xs) := by
 have hs := decX_sq h
 have hi := cd (kp (decY xs))
 show decY xs * decY xs - decX xs * decX xs = 1 + d * decX xs * decX xs * decY xs * decY xs
 rw [jU] at hs
 rw [iN] at hs hi
 generalize decX xs = x at *
 generalize decY xs = y at *
 generalize d = q at *
 generalize inv (q * (y * y) + 1) = i at *
 have e : x * x * (q * (y * y) + 1) = y * y - 1 := by rw [hs]; grind -lia -linarith
 grind -lia -linarith
theorem n5 {w : World} {lo : Nat} {e : TypeId} {u : Value} {xs : List UInt8} (o : Own w lo e 1 u (xs.length + 2) (bv (xs ++ [201, 202]))) : RdB w (cut u 0 xs.length 1) xs := by
 have h : RdB w u (xs ++ [201, 202]) := by unfold RdB; rw [List.length_append]; exact o.rd
 have h' := h.cutB (l := 0) (hi := xs.length) (by omega) (by simp)
 simpa using h'
theorem cut_cut {w : World} {n : Nat} {cs : List Value} {u : Value} {m k : Nat} (h : Rd w 1 u n cs) : cut (cut u 0 m 1) 0 k 1 = cut u 0 k 1 := by
 obtain ⟨A, c, rfl, _⟩ := h
 have e : ∀ a : Addr, a.add 0 = a := fun a => Addr.add_zero' a
 cases A with
 | none => simp [cut]
 | some a => simp [cut, e]
theorem iW (xs : List UInt8) : gb (xs ++ [201, 202]) (xs.length : Int) = 201 := by unfold gb; simp
theorem mark2 (xs : List UInt8) : gb (xs ++ [201, 202]) ((xs.length : Int) + 1) = 202 := by
 unfold gb
 rw [show ((xs.length : Int) + 1).toNat = xs.length + 1 by omega, List.getD_eq_getElem?_getD, List.getElem?_append_right (by omega)]
 simp
end Go.Proofs.YtllmbkmghmmhfaaGreatDoor.W
namespace Go.Proofs.YtllmbkmghmmhfaaGreatDoor.W
open Go Go.Eng Go.Byt
open Go.Fld Go.Ed
theorem _root_.Go.Eng.SlL.cblk {w : World} {lo : Nat} {T : TypeId} {v : Value} {ls : List (List UInt8)} (h : Go.Eng.SlL w lo T v ls) : Go.Eng.cblk v = Go.Eng.vblk v := by obtain ⟨us, _, _, h3⟩ := h; exact h3.rd.cblk
attribute [local irreducible] encB decE decX decY pmul padd leI
theorem lR (v : Value) (xs : List UInt8) (w : World) (hv : RdB w v xs) (hx : xs.length = 32) : Rets Tryz.prog 25 [v] w (fun v w' => ∃ p, v = .tuple #[.agg (iv .u64 20 p).toArray, .int .i64 (decE xs)] ∧ (decE xs = 0 → PtR p (dP xs)) ∧ Keep [] w w') :=
  (j2 v xs w hv hx).mono fun r w' ⟨p, e, h, _, k⟩ => ⟨p, e, fun h0 => it (h h0), k⟩
theorem qc {xs : List UInt8} (h : decE xs = 0) : OnP (dP xs) := dec_on h
theorem on_vn {xs ys : List UInt8} (h : decE xs = 0) : OnP (pmul (leI ys).toNat (dP xs)) := dW (qc h) _
theorem qF (v : Value) (xs : List UInt8) (w : World) (hv : RdB w v xs) (hx : xs.length = 32) : Rets Tryz.prog 26 [v] w (fun r w' => r = .bool (decide (leI xs < 7237005577332262213973186563042994240857116359379907606001950938285454250989)) ∧ Keep [] w w') :=
  (mQ v xs w hv).mono fun r w' ⟨e, k⟩ => ⟨by rw [e, decide_eq_true hx, Bool.true_and], k⟩
theorem ssame_g {p q : Nat → Int} {xs : List UInt8} {b : Pt} (hp : PtR p (pmul (leI xs).toNat basePt)) (hq : PtR q b) (w : World) : Rets Tryz.prog 28 [.agg (iv .u64 20 p).toArray, .agg (iv .u64 20 q).toArray] w (fun v w' => v = .bool (decide (gB xs = encB b.1 b.2)) ∧ Keep [] w w') := by unfold gB; exact PsameR hp hq w
theorem mC {w : World} {v : Value} {sg : List UInt8} (h : RdB w v sg) (hl : sg.length = 64) : RdB w (cut v 0 32 1) (sg.take 32) := by
 have := h.cutB (l := 0) (hi := 32) (by decide) (by omega)
 rwa [List.drop_zero] at this
theorem jW {w : World} {v : Value} {sg : List UInt8} (h : RdB w v sg) (hl : sg.length = 64) : RdB w (cut v 32 64 1) (sg.drop 32) := by
 have := h.cutB (l := 32) (hi := 64) (by decide) (by omega)
 rwa [List.take_of_length_le (by rw [List.length_drop]; omega)] at this
theorem pq {sg : List UInt8} (hl : sg.length = 64) : (sg.take 32).length = 32 := by rw [List.length_take]; omega
theorem rU {sg : List UInt8} (hl : sg.length = 64) : (sg.drop 32).length = 32 := by rw [List.length_drop]; omega
theorem ver1 {pk tx sg : List UInt8} (h : pk.length ≠ 32 ∨ sg.length ≠ 64) : verE pk tx sg = 1 := if_pos h
theorem ver30 {pk tx sg : List UInt8} (h : ¬ (pk.length ≠ 32 ∨ sg.length ≠ 64)) (h2 : decE pk ≠ 0) : verE pk tx sg = 30 := by unfold verE; rw [if_neg h, if_pos h2]
theorem ver31 {pk tx sg : List UInt8} (h : ¬ (pk.length ≠ 32 ∨ sg.length ≠ 64)) (h2 : ¬ decE pk ≠ 0) (h3 : decE (sg.take 32) ≠ 0 ∨ ¬ leI (sg.drop 32) < 7237005577332262213973186563042994240857116359379907606001950938285454250989) : verE pk tx sg = 31 := by unfold verE; rw [if_neg h, if_neg h2, if_pos h3]
theorem verX {pk tx sg : List UInt8} (h : ¬ (pk.length ≠ 32 ∨ sg.length ≠ 64)) (h2 : ¬ decE pk ≠ 0) (h3 : ¬ (decE (sg.take 32) ≠ 0 ∨ ¬ leI (sg.drop 32) < 7237005577332262213973186563042994240857116359379907606001950938285454250989)) (h4 : ¬ gB (sg.drop 32) = encB (verP pk tx sg).1 (verP pk tx sg).2) : verE pk tx sg = 31 := by unfold verE; rw [if_neg h, if_neg h2, if_neg h3, if_neg h4]
theorem ver0 {pk tx sg : List UInt8} (h : ¬ (pk.length ≠ 32 ∨ sg.length ≠ 64)) (h2 : ¬ decE pk ≠ 0) (h3 : ¬ (decE (sg.take 32) ≠ 0 ∨ ¬ leI (sg.drop 32) < 7237005577332262213973186563042994240857116359379907606001950938285454250989)) (h4 : gB (sg.drop 32) = encB (verP pk tx sg).1 (verP pk tx sg).2) : verE pk tx sg = 0 := by unfold verE; rw [if_neg h, if_neg h2, if_neg h3, if_pos h4]
theorem sver_64 (va vb vc : Value) (pk tx sg : List UInt8) (w : World) (hT : Tabs w) (hva : RdB w va pk) (hvb : RdB w vb tx) (hvc : RdB w vc sg) (htl : tx.length ≤ 140737488351232) (hlp : pk.length = 32) (hlg : sg.length = 64) : Rets Tryz.prog 14 [va, vb, vc] w (fun r w' => r = .int .i64 (verE pk tx sg) ∧ Keep [] w w') := by
  have hB : Keep [] w w := Keep.refl _ _
  have hcT := mC hvc hlg
  have hcD := jW hvc hlg
  refine ac Tryz.func14 rfl (by decide) Tryz.ntmps14 rfl (fun fin _ hfin => a5 (aZ (oga rfl rfl (a6 (a5 (a5 (aZ (ogm rfl rfl ?_))))))))
  refine a7 (cH aA rfl (by first | assumption | exact Own.rd (by assumption) | exact Rd.sD (by assumption) hB | exact Own.rd (Own.sD (by assumption) hB))) rfl (a7 (eU rfl rfl) rfl (ogm rfl rfl (d5 (grdT rfl rfl rfl (by simp [hlp])) (bb rfl) rfl (d5 (grdT rfl rfl rfl (by simp [hlp])) (cH aA rfl (by first | assumption | exact Own.rd (by assumption) | exact Rd.sD (by assumption) hB | exact Own.rd (Own.sD (by assumption) hB))) rfl (d5 (grdT rfl rfl rfl (by simp [hlp])) (eU rfl rfl) rfl (a7 (kf rfl (by simp [hlp]) rfl) rfl (a6 (ck rfl (by omega) ?_))))))))
  refine ag (a5 (aZ (ogm rfl rfl (ad (a8 (vs := [_]) rfl (lR _ pk _ (hva.sD hB) hlp)) rfl ?_))))
  rintro _ w1 ⟨hh1, rfl, E1, k1⟩
  replace hB := hB.trans k1
  refine ogm rfl rfl (a7 (bJ (vs := [_, _]) rfl rfl) rfl (a7 (bJ (vs := [_, _]) rfl rfl) rfl (ad (aj bu) rfl ?_)))
  rintro _ w2 ⟨b1, rfl, eb1, hb1, k2, z1⟩
  have ge_b1 : w.heap.size ≤ b1 := by have := hB.size; omega
  replace hB := hB.trans k2
  clear eb1 z1
  replace hb1 : Bk w2 b1 53 (iv .u64 20 (fun _ => 0)) := by rw [iv, bE]; exact hb1
  refine ae (bh (vs := iv .u64 20 hh1) bu rfl rfl rfl ai hb1 rfl) ?_
  rintro _ w3 ⟨hb2, k3, z2⟩
  replace hB := hB.new k3 (nw ge_b1)
  clear z2
  refine oga rfl rfl (a6 (a9 [(0, _), (1, _), (2, _), (7, _), (8, _)] ⟨rfl, rfl, rfl, rfl, rfl, trivial⟩ (a5 (a5 (aZ (ogm rfl rfl (a7 (eU rfl rfl) rfl (a6 ?_))))))))
  refine ba rfl (fun hc1 => ?_) (fun hc1 => ?_)
  · -- yes
    refine a5 (aZ (oga rfl rfl (a6 (bN hfin Tryz.results14 rfl ?_))))
    exact ⟨by rw [ver30 (by omega) (by omega)], hB⟩
  · -- no
    refine ag (a5 (eJ mixed (by decide +kernel) (fun w4 k4 => ?_)))
    obtain ⟨hB, hb2⟩ := bL k4 hB hb2
    refine ao (bb rfl) rfl (ao (cT (v' := (cut vc 0 32 1)) (gM aA cf rfl (hvc.sD hB) (.inl ⟨rfl, rfl⟩) (.inr ⟨_, _, rfl, rfl⟩) (by have := hvc.vcap.1; omega)) rfl) rfl (ao (bb rfl) rfl (ao (cT (v' := (cut vc 32 64 1)) (gM aA cf rfl (hvc.sD hB) (.inr ⟨_, _, rfl, rfl⟩) (.inl ⟨rfl, rfl⟩) (by have := hvc.vcap.1; omega)) (by rw [show ((sg.length : Nat) : Int).toNat = 64 from by omega]; rfl)) rfl (ao (fM rfl) rfl (ao (fM rfl) rfl (cU (a6 (a5 ?_))))))))
    refine aZ (ogm rfl rfl (ad (a8 (vs := [_]) rfl (lR _ (sg.take 32) _ (mC (hvc.sD hB) hlg) (pq hlg))) rfl ?_))
    rintro _ w5 ⟨hh2, rfl, E2, k5⟩
    obtain ⟨hB, hb2⟩ := bL k5 hB hb2
    refine ogm rfl rfl (a7 (bJ (vs := [_, _]) rfl rfl) rfl (a7 (bJ (vs := [_, _]) rfl rfl) rfl (ad (aj bu) rfl ?_)))
    rintro _ w6 ⟨b2, rfl, eb2, hb3, k6, z3⟩
    have ge_b2 : w.heap.size ≤ b2 := by have := hB.size; omega
    have ne_b1_b2 : b1 ≠ b2 := by have := hb2.lt; omega
    obtain ⟨hB, hb2⟩ := bL k6 hB hb2
    clear eb2 z3
    replace hb3 : Bk w6 b2 53 (iv .u64 20 (fun _ => 0)) := by rw [iv, bE]; exact hb3
    refine ae (bh (vs := iv .u64 20 hh2) bu rfl rfl rfl ai hb3 rfl) ?_
    rintro _ w7 ⟨hb4, k7, z4⟩
    replace hb2 := hb2.keep k7 (nm ne_b1_b2)
    replace hB := hB.new k7 (nw ge_b2)
    clear z4
    refine oga rfl rfl (a6 (a9 [(0, _), (1, _), (7, _), (8, _), (9, _), (10, _), (11, _)] ⟨rfl, rfl, rfl, rfl, rfl, rfl, rfl, trivial⟩ (a5 (a5 (aZ (ogm rfl rfl (a7 (eU rfl rfl) rfl (ogm rfl rfl ?_))))))))
    refine gY 40 false rfl (fun c1 hgc1 => de [(10, _)] (dT rfl rfl rfl hgc1) ⟨fS rfl, trivial⟩ (fun hw1 => bb rfl) rfl (q9 [(41, _)] (dT rfl rfl rfl hgc1) ⟨dU rfl, trivial⟩ (fun hw2 => a8 (vs := [_]) rfl (qF _ (sg.drop 32) _ (jW (hvc.sD hB) hlg) (rU hlg))) rfl ?_))
    rintro w9 k9
    obtain ⟨hB, hb2, hb4⟩ := cc k9 hB hb2 hb4
    refine de [(42, _)] (dT rfl rfl rfl hgc1) ⟨dU rfl, trivial⟩ (fun hw3 => fF rfl) rfl (a7 (gO rfl rfl hgc1) rfl (a6 (dV rfl (fun hc2 => ?_) (fun hc2 => ?_))))
    · -- yes
      have hd1 := hc2
      try (simp only [Bool.and_eq_true, Bool.or_eq_true, decide_eq_true_eq, Bool.and_eq_false_iff, Bool.or_eq_false_iff, decide_eq_false_iff_not, Bool.not_eq_true', Bool.not_eq_false', Bool.not_eq_true, Bool.not_eq_false, ne_eq, Decidable.not_not] at hd1)
      refine a5 (aZ (oga rfl rfl (a6 (a9 [(6, _)] ⟨rfl, trivial⟩ (bN hfin Tryz.results14 rfl ?_)))))
      exact ⟨by first | (rw [ver31 (by omega) (by omega) (by omega)]) | (rw [verX (by omega) (by omega) (by omega) (by simp_all)]), hB⟩
    · -- no
      have hd2 := hc2
      try (simp only [Bool.and_eq_true, Bool.or_eq_true, decide_eq_true_eq, Bool.and_eq_false_iff, Bool.or_eq_false_iff, decide_eq_false_iff_not, Bool.not_eq_true', Bool.not_eq_false', Bool.not_eq_true, Bool.not_eq_false, ne_eq, Decidable.not_not] at hd2)
      refine ag (a5 ?_)
      have gs1 := hB.size
      have lt2 := hb4.lt
      refine gc 11 [0, 1, 2, 3, 4, 5, 6, 7, 8, 9] [4, 5, 6] [] [(10, 53, List.replicate 20 (.int .u64 0))] (x := 9) rfl mixed [(7, _), (9, _), (0, _), (1, _), (10, _), (11, _)] ⟨rfl, rfl, rfl, rfl, rfl, rfl, trivial⟩ (by decide +kernel) (by decide) (by decide) ?_ (fun x hx => by cases hx) rfl (fun w10 k10 => ?_)
      · simp only [List.forall_mem_cons]; exact ⟨⟨_, _, _, _, _, _, rfl, bu⟩, fun q hq => by cases hq⟩
      obtain ⟨hB, hb2, hb4⟩ := cc k10 hB hb2 hb4
      refine al 7 rfl rfl rfl rfl (fun W' kk => aa (cs' := iv .u64 20 hh1) da bu rfl (Bk.sD hb2 kk) rfl rfl) (cA 9 rfl rfl rfl rfl rfl (cA 0 rfl rfl rfl rfl rfl (cA 1 rfl rfl rfl rfl rfl (bm [(47, _), (48, _), (49, _)] rfl rfl ⟨rfl, rfl, rfl, trivial⟩ rfl (fun w12 k12 => ?_)))))
      obtain ⟨hB, hb2, hb4⟩ := cc k12 hB hb2 hb4
      refine (ra (m := 3) (ls := [(sg.take 32), pk, tx]) (xs := [.tmp 47, .tmp 48, .tmp 49]) (us := [_, _, _]) aX j3 rfl rfl (eb (by first | exact Rd.nil _ _ | exact (by first | assumption | exact Own.rd (by assumption) | exact Rd.sD (by assumption) hB | exact Own.rd (Own.sD (by assumption) hB))) (eb (by first | exact Rd.nil _ _ | exact (by first | assumption | exact Own.rd (by assumption) | exact Rd.sD (by assumption) hB | exact Own.rd (Own.sD (by assumption) hB))) (eb (by first | exact Rd.nil _ _ | exact (by first | assumption | exact Own.rd (by assumption) | exact Rd.sD (by assumption) hB | exact Own.rd (Own.sD (by assumption) hB))) (kJ _)))) rfl rfl).mono ?_
      rintro v1 w11 ⟨sl1, k11⟩
      refine ⟨k11, (fun x hx => ⟨.inr (sl1.vblk x (sl1.cblk ▸ hx)).1, (sl1.vblk x (sl1.cblk ▸ hx)).2⟩), ?_⟩
      obtain ⟨hB, hb4⟩ := bL k11 hB hb4
      refine bm [(50, _)] rfl rfl ⟨rfl, trivial⟩ rfl (fun w14 k14 => ?_)
      replace hb4 := hb4.sD k14
      replace sl1 := sl1.sD k14
      replace hB := hB.trans k14
      refine (a8 (vs := [_]) rfl (lM _ (sg.take 32) pk tx _ _ (hT.sD hB) sl1 (by have a := pq hlg; omega))).mono ?_
      rintro v2 w13 ⟨o2, k13⟩
      refine ⟨k13, (fun x hx => ⟨.inr (o2.blk x (o2.rd.cblk ▸ hx)).1, (o2.blk x (o2.rd.cblk ▸ hx)).2⟩), ?_⟩
      replace hb4 := hb4.sD k13
      replace sl1 := sl1.sD k13
      replace hB := hB.trans k13
      refine bm [(46, _), (51, _)] rfl rfl ⟨rfl, rfl, trivial⟩ rfl (fun w16 k16 => ?_)
      replace hb4 := hb4.sD k16
      replace o2 := o2.sD k16
      replace hB := hB.trans k16
      refine (a8 (vs := [_, _]) rfl (jz _ (dP pk) _ (hashB (sg.take 32 ++ pk ++ tx)) (E1 (by omega)) (qc (by omega)) _ o2.rd (gC _))).mono ?_
      rintro _ w15 ⟨hh3, rfl, E3, k15⟩
      refine ⟨k15, nox, ?_⟩
      replace hb4 := hb4.sD k15
      replace o2 := o2.sD k15
      replace hB := hB.trans k15
      refine cA 52 rfl rfl rfl rfl rfl (al 45 rfl rfl rfl rfl (fun W' kk => bJ (vs := [_, _]) rfl rfl) (al 45 rfl rfl rfl rfl (fun W' kk => bJ (vs := [_, _]) rfl rfl) (i4 (fun w17 k17 => ?_))))
      replace hb4 := hb4.sD k17
      replace o2 := o2.sD k17
      replace hB := hB.trans k17
      intro b3 eb3 lb1 hb5 ds1 sp1
      have ge_b3 : w.heap.size ≤ b3 := Nat.le_trans gs1 eb3
      have ne_b2_b3 : b2 ≠ b3 := Nat.ne_of_lt (Nat.lt_of_lt_of_le lt2 eb3)
      replace hb5 : Bk w17 b3 53 (iv .u64 20 (fun _ => 0)) := by rw [iv, bE]; exact hb5
      have sb_b3_o2 := fun x (hx : x ∈ vblk v2) => sp1 5 (by decide) (by rfl) _ rfl x (by rw [Rd.cblk o2.rd]; exact hx)
      refine gx (tailx [(12, _), (53, _)] rfl ⟨rfl, rfl, trivial⟩ rfl (bh (vs := iv .u64 20 hh3) bu rfl rfl rfl ai hb5 rfl) ?_)
      rintro _ w18 ⟨hb6, k18, z5⟩
      replace hb4 := hb4.keep k18 (nm ne_b2_b3)
      replace o2 := o2.keep k18 (fun x hx hm => sb_b3_o2 x hx (List.mem_singleton.1 hm))
      replace hB := hB.new k18 (nw ge_b3)
      clear z5
      refine oga rfl rfl (a6 (a9 [(10, _), (11, _), (12, _)] ⟨rfl, rfl, rfl, trivial⟩ (a5 (a5 (bc 7 [0, 2, 3, 1, 4, 5, 6] [1, 4, 5] [] mixed [(10, _), (11, _), (12, _)] ⟨rfl, rfl, rfl, trivial⟩ (by decide +kernel) rfl (fun w19 k19 => ?_))))))
      replace hb4 := hb4.sD k19
      replace o2 := o2.sD k19
      obtain ⟨hB, hb6⟩ := bL k19 hB hb6
      refine bH 10 rfl rfl rfl rfl rfl (am 11 rfl rfl rfl rfl (fun W' kk => aa (cs' := iv .u64 20 hh2) da bu rfl (Bk.sD hb4 kk) rfl rfl) (am 12 rfl rfl rfl rfl (fun W' kk => aa (cs' := iv .u64 20 hh3) da bu rfl (Bk.sD hb6 kk) rfl rfl) (bq [(55, _)] rfl rfl ⟨rfl, trivial⟩ rfl (a8 (vs := [_]) rfl (gU _ (sg.drop 32) _ (jW (hvc.sD hB) hlg) (rU hlg))) ?_)))
      rintro _ w20 ⟨hh4, rfl, E4, k20⟩
      refine ⟨k20, ?_⟩
      replace o2 := o2.sD k20
      replace hB := hB.trans k20
      refine bq [(57, _), (58, _)] rfl rfl ⟨rfl, rfl, trivial⟩ rfl (a8 (vs := [_, _]) rfl (PplusR (E2 (by omega)) E3 (qc (by omega)) (on_vn (by omega)) _)) ?_
      rintro _ w21 ⟨hh5, rfl, E5, k21⟩
      refine ⟨k21, ?_⟩
      replace o2 := o2.sD k21
      replace hB := hB.trans k21
      refine bq [(56, _), (59, _)] rfl rfl ⟨rfl, rfl, trivial⟩ rfl (a8 (vs := [_, _]) rfl (ssame_g (b := (verP pk tx sg)) E4 E5 _)) ?_
      rintro _ w22 ⟨rfl, k22⟩
      refine ⟨k22, ?_⟩
      replace o2 := o2.sD k22
      replace hB := hB.trans k22
      refine am 60 rfl rfl rfl rfl (fun W' kk => fF rfl) (bx (a6 (ba rfl (fun hc3 => ?_) (fun hc3 => ?_))))
      · -- yes
        refine a5 (aZ (oga rfl rfl (a6 (a9 [(6, _)] ⟨rfl, trivial⟩ (bN hfin Tryz.results14 rfl ?_)))))
        exact ⟨by first | (rw [ver31 (by omega) (by omega) (by omega)]) | (rw [verX (by omega) (by omega) (by omega) (by simp_all)]), hB⟩
      · -- no
        refine ag (a5 (aZ (oga rfl rfl (a6 (a9 [(6, _)] ⟨rfl, trivial⟩ (bN hfin Tryz.results14 rfl ?_))))))
        exact ⟨by rw [ver0 (by omega) (by omega) (by omega) (by simp_all)], hB⟩
theorem sver_no (va vb vc : Value) (pk tx sg : List UInt8) (w : World) (hva : RdB w va pk) (hvb : RdB w vb tx) (hvc : RdB w vc sg) (htl : tx.length ≤ 140737488351232) (hno : pk.length ≠ 32 ∨ sg.length ≠ 64) : Rets Tryz.prog 14 [va, vb, vc] w (fun r w' => r = .int .i64 (verE pk tx sg) ∧ Keep [] w w') := by
 have hB : Keep [] w w := Keep.refl _ _
 refine ac Tryz.func14 rfl (by decide) Tryz.ntmps14 rfl (fun fin _ hfin => a5 (aZ (oga rfl rfl (a6 (a5 (a5 (aZ (ogm rfl rfl (a7 (cH aA rfl (by first | assumption | exact Own.rd ‹_› | exact Rd.sD ‹_› hB | exact Own.rd (Own.sD ‹_› hB))) rfl (a7 (eU rfl rfl) rfl (ogm rfl rfl (gY 17 false rfl (fun c1 hgc1 => de [(2, _)] (dT rfl rfl rfl hgc1) ⟨fS rfl, trivial⟩ (fun hw1 => bb rfl) rfl (de [(18, _)] (dT rfl rfl rfl hgc1) ⟨dU rfl, trivial⟩ (fun hw2 => cH aA rfl (by first | assumption | exact Own.rd ‹_› | exact Rd.sD ‹_› hB | exact Own.rd (Own.sD ‹_› hB))) rfl (de [(19, _)] (dT rfl rfl rfl hgc1) ⟨dU rfl, trivial⟩ (fun hw3 => eU rfl rfl) rfl (a7 (gO rfl rfl hgc1) rfl ?_))))))))))))))))
 refine a6 (dV rfl (fun hc1 => ?_) (fun hc1 => ?_))
 ·
  have hd1 := hc1
  try (simp only [Bool.and_eq_true, Bool.or_eq_true, decide_eq_true_eq, Bool.and_eq_false_iff, Bool.or_eq_false_iff, decide_eq_false_iff_not, Bool.not_eq_true', Bool.not_eq_false', Bool.not_eq_true, Bool.not_eq_false, ne_eq, Decidable.not_not] at hd1)
  refine a5 (aZ (oga rfl rfl (a6 (a9 [(6, _)] ⟨rfl, trivial⟩ (bN hfin Tryz.results14 rfl ?_)))))
  exact ⟨by rw [ver1 hno], hB⟩
 ·
  have hd2 := hc1
  try (simp only [Bool.and_eq_true, Bool.or_eq_true, decide_eq_true_eq, Bool.and_eq_false_iff, Bool.or_eq_false_iff, decide_eq_false_iff_not, Bool.not_eq_true', Bool.not_eq_false', Bool.not_eq_true, Bool.not_eq_false, ne_eq, Decidable.not_not] at hd2)
  exact absurd hno (by first | omega | (simp_all))
theorem pt (va vb vc : Value) (pk tx sg : List UInt8) (w : World) (hT : Tabs w) (hva : RdB w va pk) (hvb : RdB w vb tx) (hvc : RdB w vc sg) (htl : tx.length ≤ 140737488351232) : Rets Tryz.prog 14 [va, vb, vc] w (fun r w' => r = .int .i64 (verE pk tx sg) ∧ Keep [] w w') := by
  by_cases h : pk.length ≠ 32 ∨ sg.length ≠ 64
  · exact sver_no va vb vc pk tx sg w hva hvb hvc htl h
  · exact sver_64 va vb vc pk tx sg w hT hva hvb hvc htl (by omega) (by omega)
end Go.Proofs.YtllmbkmghmmhfaaGreatDoor.W
namespace Go.Proofs.YtllmbkmghmmhfaaGreatDoor.W
open Go Go.Eng Go.Byt
open Go.Fld Go.Ed
attribute [local irreducible] encB decE decX decY pmul padd leI
end Go.Proofs.YtllmbkmghmmhfaaGreatDoor.W
namespace Go.Proofs.YtllmbkmghmmhfaaGreatDoor.W
open Go Go.Eng Go.Byt Go.Fld Go.Ed
def frc {α : Type} (n : Nat) (k : Nat → α) : α := match n with
 | 0 => k 0
 | m + 1 => k (m + 1)
theorem frc_eq {α : Type} (n : Nat) (k : Nat → α) : frc n k = k n := by cases n <;> rfl
abbrev E4 := Nat × Nat × Nat × Nat
def dN : Nat := 37095705934669439343138083508754565189542113879843219016388785533085940283555
def eaddN (p q : E4) : E4 :=
 frc (p.1 * q.1 % P) fun A => frc (p.2.1 * q.2.1 % P) fun B => frc (p.2.2.2 * q.2.2.2 % P * dN % P) fun C => frc (p.2.2.1 * q.2.2.1 % P) fun D =>
 frc ((p.1 * q.2.1 + p.2.1 * q.1) % P) fun E => frc ((D + (P - 1) * C) % P) fun F => frc ((D + C) % P) fun G => frc ((B + A) % P) fun H =>
 frc (E * F % P) fun X => frc (G * H % P) fun Y => frc (F * G % P) fun Z => frc (E * H % P) fun T => (X, Y, Z, T)
def baseN : E4 := (15112221349535400772501151409588531511454012693041857206046113283949847762202, 46316835694926478169428394003475163141307993866256225615783033603165251855960, 1, 15112221349535400772501151409588531511454012693041857206046113283949847762202 * 46316835694926478169428394003475163141307993866256225615783033603165251855960 % P)
def emulN : Nat → Nat → E4
 | 0, _ => (0, 1, 1, 0)
 | f + 1, n => match emulN f (n / 2) with
   | (X, Y, Z, T) => bif Nat.beq (n % 2) 1 then eaddN (eaddN (X, Y, Z, T) (X, Y, Z, T)) baseN else eaddN (X, Y, Z, T) (X, Y, Z, T)
theorem P_pos : 0 < P := by decide
def fN (n : Nat) : Fp := ⟨n % P, Nat.mod_lt _ P_pos⟩
theorem mw (n : Nat) : fN (n % P) = fN n := Fin.ext (Nat.mod_mod _ _)
theorem rP (a b : Nat) : fN (a * b) = fN a * fN b := Fin.ext (by rw [i0]; exact Nat.mul_mod _ _ _)
theorem fN_add (a b : Nat) : fN (a + b) = fN a + fN b := Fin.ext (by rw [nL]; exact Nat.add_mod _ _ _)
theorem fN_neg (a c : Fp) : a + fN (P - 1) * c = a - c := by
 have h : fN (P - 1) = -1 := by decide +kernel
 rw [h]
 grind -lia -linarith
theorem fN_d : fN dN = d := by decide +kernel
def RepN (p : E4) (a : Pt) : Prop := Rep (fN p.1) (fN p.2.1) (fN p.2.2.1) (fN p.2.2.2) a
theorem l5 {p q : E4} {a b : Pt} (ha : OnP a) (hb : OnP b) (hp : RepN p a) (hq : RepN q b) : RepN (eaddN p q) (padd a b) := by
 have h := l3 ha hb hp hq
 unfold RepN eaddN
 simp only [frc_eq, mw, rP, fN_add, fN_neg, fN_d]
 have e1 : fN p.1 * fN q.2.1 + fN p.2.1 * fN q.1 = (fN p.1 + fN p.2.1) * (fN q.1 + fN q.2.1) - fN p.1 * fN q.1 - fN p.2.1 * fN q.2.1 := by grind -lia -linarith
 rw [e1]
 exact h
theorem oo : RepN baseN basePt := by
 refine ⟨by decide +kernel, ?_, ?_, ?_⟩ <;> decide +kernel
theorem om : RepN (0, 1, 1, 0) zero := by
 refine ⟨by decide +kernel, ?_, ?_, ?_⟩ <;> decide +kernel
theorem iq : ∀ (f n : Nat), n < 2 ^ f → RepN (emulN f n) (pmul n basePt)
 | 0, n, h => by
   have : n = 0 := by simpa using h
   subst this; exact om
 | f + 1, n, h => by
   have ih := iq f (n / 2) (by rw [Nat.pow_succ] at h; omega)
   unfold emulN
   generalize emulN f (n / 2) = q at ih
   obtain ⟨X, Y, Z, T⟩ := q
   have h2 := l5 (dW dt _) (dW dt _) ih ih
   rw [fj dt] at h2
   simp only
   cases hb : Nat.beq (n % 2) 1 with
   | true =>
     have e := Nat.eq_of_beq_eq_true hb
     have h3 := l5 (dW dt _) dt h2 oo
     rw [cond_true, show n = n / 2 * 2 + 1 by omega, dz dt, l8]
     exact h3
   | false =>
     have e : n % 2 ≠ 1 := fun e => by
       have : Nat.beq (n % 2) 1 = true := by rw [e]; rfl
       rw [this] at hb; cases hb
     rw [cond_false]
     rwa [show n / 2 * 2 = n by omega] at h2
def ordL : Nat := 7237005577332262213973186563042994240857116359379907606001950938285454250989
theorem emul_L : (emulN 253 ordL).1 = 0 ∧ (emulN 253 ordL).2.1 = (emulN 253 ordL).2.2.1 := by decide +kernel
theorem pmul_L : pmul ordL basePt = zero := by
 obtain ⟨hz, hx, hy, _⟩ := iq 253 ordL (by decide)
 obtain ⟨e1, e2⟩ := emul_L
 rw [e1] at hx
 rw [e2] at hy
 have h0 : fN 0 = 0 := by decide
 rw [h0] at hx
 have x0 : (pmul ordL basePt).1 = 0 := by
   rcases eM hx.symm with h | h
   · exact h
   · exact absurd h hz
 have y1 : (pmul ordL basePt).2 = 1 := by
   refine gZ hz ?_
   rw [← hy]
   generalize fN (emulN 253 ordL).2.2.1 = q
   grind -lia -linarith
 exact Prod.ext x0 y1
theorem qW (n : Nat) : pmul (n % ordL) basePt = pmul n basePt := by
 have e : pmul n basePt = pmul (n % ordL + ordL * (n / ordL)) basePt := by rw [Nat.mod_add_div]
 rw [e, dz dt, iy dt, pmul_L, oz, eA]
theorem i4_sq : fpow 2 14474011154664524427946373126085988481658748083205070504932198000989141204987 * fpow 2 14474011154664524427946373126085988481658748083205070504932198000989141204987 = (-1 : Fp) := by
 rw [← d6]
 apply Fin.ext
 rw [kj _ _ (by decide +kernel)]
 decide +kernel
theorem quarter {x : Fp} (hx : x ≠ 0) : en (x * x) * en (x * x) * (en (x * x) * en (x * x)) = (x * x) * (x * x) := by
 have h2 : x * x = fpow x 2 := by show x * x = 1 * x * x; rw [Fin.one_mul]
 have h4 : fpow x 4 = (x * x) * (x * x) := by rw [show (4 : Nat) = 2 + 2 from rfl, d6, ← h2]
 unfold en
 rw [← h4, h2, ← gw, ← d6, ← d6, show 2 * 7237005577332262213973186563042994240829374041602535252466099000494570602494 + 2 * 7237005577332262213973186563042994240829374041602535252466099000494570602494 + (2 * 7237005577332262213973186563042994240829374041602535252466099000494570602494 + 2 * 7237005577332262213973186563042994240829374041602535252466099000494570602494) = (P - 1) + 4 from by decide +kernel, d6, fermat hx, Fin.one_mul]
theorem qL (x : Fp) : cu (x * x) * cu (x * x) = x * x := by
 unfold cu
 by_cases hq : en (x * x) * en (x * x) = x * x
 · rw [if_pos hq]; exact hq
 · rw [if_neg hq]
   by_cases hx : x = 0
   · exfalso
     subst hx
     refine hq ?_
     have e : (0 : Fp) * 0 = 0 := Fin.zero_mul _
     rw [e]
     unfold en
     rw [show 7237005577332262213973186563042994240829374041602535252466099000494570602494 = 7237005577332262213973186563042994240829374041602535252466099000494570602493 + 1 from rfl, fpow, Fin.mul_zero]
     exact e
   · have h4 := quarter hx
     have hi := i4_sq
     generalize en (x * x) = r at *
     generalize fpow 2 14474011154664524427946373126085988481658748083205070504932198000989141204987 = i at *
     have hz : (r * r - x * x) * (r * r + x * x) = 0 := by grind -lia -linarith
     rcases eM hz with h | h
     · exact absurd (by grind -lia -linarith) hq
     · grind -lia -linarith
theorem mr (y : Fp) : In (gb (fpB y) 31) 0 127 := by
 have h : y.val < 57896044618658097711785492504343953926634992332820282019728792003956564819949 := y.isLt
 unfold gb fpB
 rw [show (31 : Int).toNat = 31 from rfl, List.getD_eq_getElem?_getD, n6 _ 32 31 (by decide)]
 simp only [Option.getD_some]
 have hp : (256 : Int) ^ 31 = 452312848583266388373324160190187140051835877600158453279131187530910662656 := by decide +kernel
 rw [hp]
 have hb : (y.val : Int) / 452312848583266388373324160190187140051835877600158453279131187530910662656 < 128 := by omega
 have hb0 : 0 ≤ (y.val : Int) / 452312848583266388373324160190187140051835877600158453279131187530910662656 := by omega
 generalize (y.val : Int) / 452312848583266388373324160190187140051835877600158453279131187530910662656 = q at *
 unfold In
 simp
 omega
theorem mK {g s : Int} (hg : In g 0 127) (hs : In s 0 255) : In (bits .or .u8 g (IntKind.u8.wrap (s * 128))) 0 255 ∧ bits .andNot .u8 (bits .or .u8 g (IntKind.u8.wrap (s * 128))) 128 = g ∧ (bits .or .u8 g (IntKind.u8.wrap (s * 128)) / 128 = 1 ↔ s % 2 = 1) := by
 have k1 : ∀ n : Fin 256, IntKind.u8.wrap ((n.val : Int) * 128) = if n.val % 2 = 1 then 128 else 0 := by decide +kernel
 have k2 : ∀ n : Fin 128, (0 ≤ bits .or .u8 (n.val : Int) 128 ∧ bits .or .u8 (n.val : Int) 128 ≤ 255) ∧ bits .andNot .u8 (bits .or .u8 (n.val : Int) 128) 128 = (n.val : Int) ∧ bits .or .u8 (n.val : Int) 128 / 128 = 1 := by decide +kernel
 have k3 : ∀ n : Fin 128, (0 ≤ bits .or .u8 (n.val : Int) 0 ∧ bits .or .u8 (n.val : Int) 0 ≤ 255) ∧ bits .andNot .u8 (bits .or .u8 (n.val : Int) 0) 128 = (n.val : Int) ∧ bits .or .u8 (n.val : Int) 0 / 128 ≠ 1 := by decide +kernel
 unfold In at hg hs
 have e1 := k1 ⟨s.toNat, by omega⟩
 have e2 := k2 ⟨g.toNat, by omega⟩
 have e3 := k3 ⟨g.toNat, by omega⟩
 simp only at e1 e2 e3
 rw [show ((s.toNat : Nat) : Int) = s by omega] at e1
 rw [show ((g.toNat : Nat) : Int) = g by omega] at e2 e3
 rw [e1]
 by_cases hc : s % 2 = 1
 · rw [if_pos (by omega)]; exact ⟨e2.1, e2.2.1, fun _ => hc, fun _ => e2.2.2⟩
 · rw [if_neg (by omega)]; exact ⟨e3.1, e3.2.1, fun h => absurd h e3.2.2, fun h => absurd h hc⟩
theorem odd_gb (x : Fp) : gb (fpB x) 0 % 2 = 1 ↔ oddF x := by
 have ho := odd0 x
 rw [cL (k := .u8) (a := 0) (b := 255) 1 (c := 1) (m := 2) (cK _ _) rfl rfl rfl rfl rfl rfl] at ho
 exact ho
theorem nl (x y : Fp) : gb (encB x y) 31 = bits .or .u8 (gb (fpB y) 31) (IntKind.u8.wrap (gb (fpB x) 0 * 128)) := by
 have h := (mK (mr y) (cK (fpB x) 0)).1
 unfold encB
 generalize bits .or .u8 (gb (fpB y) 31) (IntKind.u8.wrap (gb (fpB x) 0 * 128)) = q at *
 unfold gb
 rw [show (31 : Int).toNat = 31 from rfl, List.getD_eq_getElem?_getD, List.getElem?_set_self (by rw [bG]; decide)]
 simp only [Option.getD_some]
 unfold In at h
 simp
 omega
theorem np (x y : Fp) : decLow (encB x y) = fpB y := by
 have h := (mK (mr y) (cK (fpB x) 0)).2.1
 have hl := bG y
 unfold decLow
 rw [nl, h]
 unfold encB
 rw [List.set_set]
 have e : UInt8.ofNat (gb (fpB y) 31).toNat = (fpB y)[31]'(by omega) := by
   unfold gb
   rw [show (31 : Int).toNat = 31 from rfl, List.getD_eq_getElem?_getD, List.getElem?_eq_getElem (by omega)]
   simp
 rw [e, List.set_getElem_self]
theorem enc_y (x y : Fp) : decY (encB x y) = y := by unfold decY; rw [np, fX]
theorem enc_odd (x y : Fp) : decOdd (encB x y) = true ↔ oddF x := by
 unfold decOdd
 rw [decide_eq_true_eq, nl, (mK (mr y) (cK (fpB x) 0)).2.2, odd_gb]
theorem enc_q {x y : Fp} (h : On x y) : decU y * inv (decV y) = x * x := by
 have hi := cd (kp y)
 unfold On at h
 rw [jU]
 rw [iN] at hi ⊢
 generalize inv (d * (y * y) + 1) = i at *
 generalize d = q at *
 have e : y * y - 1 = x * x * (q * (y * y) + 1) := by grind -lia -linarith
 rw [e]
 grind -lia -linarith
theorem my {x y : Fp} (h : On x y) : rootOk (decU y) (decV y) = true := by
 unfold rootOk
 rw [enc_q h, decide_eq_true (qL x), decide_eq_false (kp y)]; rfl
theorem rS {x y : Fp} (h : On x y) : (oddF x → x = 0 - rootF (decU y) (decV y)) ∧ (¬ oddF x → x = rootF (decU y) (decV y)) := by
 have h1 := nV (my h)
 have h2 := oc (my h)
 rw [enc_q h] at h1
 generalize rootF (decU y) (decV y) = r at *
 have hz : (r - x) * (r + x) = 0 := by grind -lia -linarith
 rcases eM hz with e | e
 · have : x = r := by grind -lia -linarith
   subst this
   exact ⟨fun ho => absurd ho h2, fun _ => rfl⟩
 · have hx : x = 0 - r := by grind -lia -linarith
   refine ⟨fun _ => hx, fun ho => ?_⟩
   by_cases hr : r.val = 0
   · have : r = 0 := Fin.ext hr
     rw [hx, this]; grind -lia -linarith
   · exfalso
     have := n3 r hr
     unfold oddF at ho h2
     rw [hx] at ho
     omega
theorem enc_dec {a : Pt} (h : OnP a) : decE (encB a.1 a.2) = 0 ∧ decX (encB a.1 a.2) = a.1 ∧ decY (encB a.1 a.2) = a.2 := by
 obtain ⟨x, y⟩ := a
 have hl : (encB x y).length = 32 := by unfold encB; rw [List.length_set, bG]
 obtain ⟨hr1, hr2⟩ : (oddF x → x = 0 - rootF (decU y) (decV y)) ∧ (¬ oddF x → x = rootF (decU y) (decV y)) := rS h
 show decE (encB x y) = 0 ∧ decX (encB x y) = x ∧ decY (encB x y) = y
 have hy := enc_y x y
 have ho := enc_odd x y
 refine ⟨?_, ?_, hy⟩
 · unfold decE
   rw [if_neg (by omega), hy, if_neg (by rw [np]; simp), my h]
   rw [if_neg]
   simp only [Bool.not_true, Bool.false_or, Bool.and_eq_true, decide_eq_true_eq, not_and]
   intro h1 h2
   have hx := hr1 (ho.1 h1)
   rw [h2] at hx
   have hx : x = 0 := by rw [hx]; grind -lia -linarith
   have := ho.1 h1
   rw [hx] at this
   exact absurd this (by decide)
 · unfold decX
   rw [hy]
   by_cases hc : decOdd (encB x y) = true
   · rw [if_pos hc]; exact (hr1 (ho.1 hc)).symm
   · rw [if_neg hc]; exact (hr2 (fun h => hc (ho.2 h))).symm
end Go.Proofs.YtllmbkmghmmhfaaGreatDoor.W
namespace Go.Sha
open Go Go.Eng Go.Byt
section
variable {n : Nat}
def frB {α : Type} (x : BitVec n) (k : BitVec n → α) : α := match x.toNat with
 | 0 => k (BitVec.ofNat n 0)
 | m + 1 => k (BitVec.ofNat n (m + 1))
theorem ki {α : Type} (x : BitVec n) (k : BitVec n → α) : frB x k = k x := by
 have h : BitVec.ofNat n x.toNat = x := by simp
 unfold frB
 split
 · next e => rw [e] at h; rw [h]
 · next m e => rw [e] at h; rw [h]
def rndF (P : Pl n) (k w : BitVec n) : S8 n → S8 n
 | ⟨a, b, c, d, e, f, g, h⟩ => frB (h + hi P.u1 e + ((e &&& f) ^^^ (~~~e &&& g)) + k + w) fun t1 => frB (hi P.u0 a + ((a &&& b) ^^^ (a &&& c) ^^^ (b &&& c))) fun t2 => frB (t1 + t2) fun a' => frB (d + t1) fun e' => ⟨a', a, b, c, e', e, f, g⟩
theorem rndF_eq (P : Pl n) (k w : BitVec n) (x : S8 n) : rndF P k w x = rnd P k w x := by
 obtain ⟨a, b, c, d, e, f, g, h⟩ := x
 unfold rndF rnd
 simp only [ki]
def rndsF (P : Pl n) (K : List Nat) (r : List (BitVec n)) (N : Nat) (s : S8 n) : Nat → S8 n
 | 0 => s
 | t + 1 => match rndsF P K r N s t with
   | ⟨a, b, c, d, e, f, g, h⟩ => rndF P (cst n K t) (r.getD (N - 1 - t) 0) ⟨a, b, c, d, e, f, g, h⟩
theorem lX (P : Pl n) (K : List Nat) (w : List (BitVec n)) (s : S8 n) : ∀ t, t ≤ w.length → rndsF P K w.reverse w.length s t = rnds P K w s t
 | 0, _ => rfl
 | t + 1, h => by
   have e : w.reverse.getD (w.length - 1 - t) 0 = w.getD t 0 := by
     rw [List.getD_eq_getElem?_getD, List.getD_eq_getElem?_getD, List.getElem?_reverse (by omega), show w.length - 1 - (w.length - 1 - t) = t from by omega]
   rw [rndsF, rnds, lX P K w s t (by omega), e, ← rndF_eq]
def goS (P : Pl n) : Nat → List (BitVec n) → List (BitVec n)
 | 0, r => r
 | k + 1, r => frB (lo P.l1 (r.getD 1 0) + r.getD 6 0 + lo P.l0 (r.getD 14 0) + r.getD 15 0) fun v => goS P k (v :: r)
theorem rA (P : Pl n) (b : List UInt8) : ∀ k j, goS P k (sch P b j).reverse = (sch P b (j + k)).reverse
 | 0, j => rfl
 | k + 1, j => by
   have hl := eY P b j
   have e : ∀ i, i < 16 → (sch P b j).reverse.getD i 0 = (sch P b j).getD (15 + j - i) 0 := fun i hi => by
     rw [List.getD_eq_getElem?_getD, List.getD_eq_getElem?_getD, List.getElem?_reverse (by omega), hl, show 16 + j - 1 - i = 15 + j - i from by omega]
   rw [goS, ki, e 1 (by decide), e 6 (by decide), e 14 (by decide), e 15 (by decide)]
   have hs : (lo P.l1 ((sch P b j).getD (15 + j - 1) 0) + (sch P b j).getD (15 + j - 6) 0 + lo P.l0 ((sch P b j).getD (15 + j - 14) 0) + (sch P b j).getD (15 + j - 15) 0) :: (sch P b j).reverse = (sch P b (j + 1)).reverse := by
     rw [sch, List.reverse_append]
     show _ = nxt P (sch P b j) (16 + j) :: (sch P b j).reverse
     unfold nxt
     rw [show 16 + j - 2 = 15 + j - 1 from by omega, show 16 + j - 7 = 15 + j - 6 from by omega, show 16 + j - 15 = 15 + j - 14 from by omega, show 16 + j - 16 = 15 + j - 15 from by omega]
   rw [hs, rA P b k (j + 1), show j + 1 + k = j + (k + 1) from by omega]
def iniF (b : List UInt8) : Nat → List (BitVec n)
 | 0 => []
 | k + 1 => frB (wrd n b k) fun v => v :: iniF b k
theorem nb (b : List UInt8) : ∀ k, iniF (n := n) b k = ((List.range k).map (wrd n b)).reverse
 | 0 => rfl
 | k + 1 => by rw [iniF, ki, nb b k, List.range_succ, List.map_append, List.reverse_append]; rfl
def blkF (P : Pl n) (K : List Nat) (b : List UInt8) (s : S8 n) : S8 n := match rndsF P K (goS P (P.R - 16) (iniF b 16)) P.R s P.R with
 | ⟨a, b, c, d, e, f, g, h⟩ => frB (s.a + a) fun a => frB (s.b + b) fun b => frB (s.c + c) fun c => frB (s.d + d) fun d => frB (s.e + e) fun e => frB (s.f + f) fun f => frB (s.g + g) fun g => frB (s.h + h) fun h => ⟨a, b, c, d, e, f, g, h⟩
theorem blkF_eq (P : Pl n) (K : List Nat) (b : List UInt8) (s : S8 n) (hR : 16 ≤ P.R) : blkF P K b s = blk P K b s := by
 have e1 : iniF (n := n) b 16 = (sch P b 0).reverse := by rw [nb]; rfl
 have e2 : goS P (P.R - 16) (iniF b 16) = (sch P b (P.R - 16)).reverse := by rw [e1, rA, Nat.zero_add]
 have hl : (sch P b (P.R - 16)).length = P.R := by rw [eY]; omega
 have e3 := lX P K (sch P b (P.R - 16)) s P.R (by omega)
 rw [hl] at e3
 unfold blkF blk qY
 rw [e2, e3]
 simp only [ki]
theorem i1 {P : Pl n} {K H : List Nat} {b pb : List UInt8} (hR : 16 ≤ P.R) (hn : 0 < n) (hp : pad n b = pb) (hl : pb.length = 2 * n) : sum P K H b = out8 (blkF P K pb (st8 n H)) := by
 unfold sum
 rw [hp, hl, Nat.div_self (by omega), blks, blks, List.take_of_length_le (by omega), blkF_eq P K pb _ hR]
end
end Go.Sha
namespace Go.Proofs.YtllmbkmghmmhfaaGreatDoor.W
open Go Go.Eng Go.Byt
open Go.Fld Go.Ed
def l_h : List UInt8 := [80, 70, 173, 193, 219, 168, 56, 134, 123, 43, 187, 253, 208, 195, 66, 62, 88, 181, 121, 112, 181, 38, 122, 144, 245, 121, 96, 146, 74, 135, 241, 150, 10, 106, 133, 234, 166, 66, 218, 200, 53, 66, 75, 93, 124, 141, 99, 124, 0, 64, 140, 122, 115, 218, 103, 43, 127, 73, 133, 33, 66, 11, 109, 211]
def l_s : List UInt8 := [80, 70, 173, 193, 219, 168, 56, 134, 123, 43, 187, 253, 208, 195, 66, 62, 88, 181, 121, 112, 181, 38, 122, 144, 245, 121, 96, 146, 74, 135, 241, 86]
def l_px : List UInt8 := [10, 106, 133, 234, 166, 66, 218, 200, 53, 66, 75, 93, 124, 141, 99, 124, 0, 64, 140, 122, 115, 218, 103, 43, 127, 73, 133, 33, 66, 11, 109, 211]
def pK : List UInt8 := [59, 106, 39, 188, 206, 182, 164, 45, 98, 163, 168, 208, 42, 111, 13, 115, 101, 50, 21, 119, 29, 226, 67, 166, 58, 192, 72, 161, 139, 89, 218, 41]
def l_hr : List UInt8 := [237, 97, 107, 212, 26, 238, 14, 43, 106, 34, 164, 163, 230, 100, 26, 207, 91, 39, 222, 231, 72, 83, 52, 142, 137, 136, 226, 197, 59, 29, 195, 202, 229, 15, 237, 148, 53, 47, 53, 43, 226, 68, 78, 244, 187, 102, 152, 79, 244, 24, 122, 126, 178, 33, 87, 74, 187, 241, 7, 22, 242, 246, 228, 143]
def kV : List UInt8 := [53, 21, 111, 120, 165, 98, 138, 224, 165, 248, 124, 236, 208, 37, 138, 13, 242, 216, 81, 96, 166, 166, 4, 142, 13, 95, 220, 189, 2, 104, 224, 15]
def li : List UInt8 := [119, 80, 213, 221, 193, 50, 156, 219, 224, 181, 237, 117, 127, 0, 200, 234, 53, 171, 78, 23, 32, 208, 172, 199, 214, 54, 148, 81, 190, 239, 157, 20]
def l_hk : List UInt8 := [162, 190, 238, 182, 243, 73, 151, 135, 169, 174, 164, 7, 254, 181, 48, 127, 119, 159, 43, 126, 223, 242, 240, 247, 28, 243, 88, 5, 4, 94, 179, 6, 67, 59, 180, 160, 46, 143, 160, 109, 246, 161, 4, 11, 72, 127, 187, 153, 247, 23, 110, 4, 244, 130, 140, 251, 141, 68, 81, 216, 47, 136, 31, 221]
def l_kb : List UInt8 := [89, 29, 150, 19, 191, 211, 243, 119, 13, 255, 10, 225, 164, 72, 215, 152, 40, 9, 90, 37, 100, 125, 14, 80, 24, 27, 19, 35, 80, 187, 207, 11]
def lj : List UInt8 := [117, 230, 182, 85, 32, 12, 76, 146, 239, 183, 3, 124, 12, 38, 145, 93, 43, 47, 186, 9, 169, 51, 109, 32, 117, 21, 7, 195, 227, 143, 34, 7]
def l_SE : List UInt8 := [88, 74, 222, 186, 162, 163, 86, 176, 255, 176, 135, 23, 104, 190, 118, 77, 217, 206, 250, 234, 122, 172, 183, 26, 187, 187, 139, 143, 57, 32, 181, 148]
def l_hk2 : List UInt8 := [13, 52, 91, 54, 179, 245, 134, 16, 90, 10, 120, 33, 70, 114, 55, 242, 221, 232, 230, 151, 108, 50, 139, 40, 62, 143, 134, 115, 94, 224, 175, 251, 170, 167, 15, 158, 43, 56, 78, 146, 254, 133, 141, 45, 19, 243, 97, 34, 140, 29, 41, 67, 20, 74, 224, 0, 17, 33, 199, 168, 224, 69, 73, 132]
def l_k2b : List UInt8 := [93, 213, 114, 77, 249, 245, 133, 234, 240, 35, 180, 11, 58, 231, 252, 61, 27, 29, 7, 251, 223, 231, 134, 139, 84, 42, 194, 115, 220, 35, 159, 14]
def l_ma : List UInt8 := [10, 106, 133, 234, 166, 66, 218, 200, 53, 66, 75, 93, 124, 141, 99, 124, 0, 64, 140, 122, 115, 218, 103, 43, 127, 73, 133, 33, 66, 11, 109, 211, 97]
def l_mb : List UInt8 := [119, 80, 213, 221, 193, 50, 156, 219, 224, 181, 237, 117, 127, 0, 200, 234, 53, 171, 78, 23, 32, 208, 172, 199, 214, 54, 148, 81, 190, 239, 157, 20, 59, 106, 39, 188, 206, 182, 164, 45, 98, 163, 168, 208, 42, 111, 13, 115, 101, 50, 21, 119, 29, 226, 67, 166, 58, 192, 72, 161, 139, 89, 218, 41, 97]
def l_mc : List UInt8 := [119, 80, 213, 221, 193, 50, 156, 219, 224, 181, 237, 117, 127, 0, 200, 234, 53, 171, 78, 23, 32, 208, 172, 199, 214, 54, 148, 81, 190, 239, 157, 20, 59, 106, 39, 188, 206, 182, 164, 45, 98, 163, 168, 208, 42, 111, 13, 115, 101, 50, 21, 119, 29, 226, 67, 166, 58, 192, 72, 161, 139, 89, 218, 41, 98]
def chkN : E4 → Nat → Nat → Bool
 | (X, Y, Z, T), x, y => Nat.beq (x * Z % P) (X % P) && Nat.beq (y * Z % P) (Y % P)
theorem kM {f n x y : Nat} (hn : n < 2 ^ f) (h : chkN (emulN f n) x y = true) : pmul n basePt = (fN x, fN y) := by
 obtain ⟨hz, hx, hy, _⟩ := iq f n hn
 generalize emulN f n = q at *
 obtain ⟨X, Y, Z, T⟩ := q
 unfold chkN at h
 rw [Bool.and_eq_true] at h
 have e1 := congrArg fN (Nat.eq_of_beq_eq_true h.1)
 have e2 := congrArg fN (Nat.eq_of_beq_eq_true h.2)
 rw [mw, mw, rP] at e1 e2
 simp only at hx hy hz
 refine Prod.ext ?_ ?_
 · exact gZ hz (hx.symm.trans e1.symm)
 · exact gZ hz (hy.symm.trans e2.symm)
theorem kh (n : List UInt8) : decE (gB n) = 0 ∧ dP (gB n) = pmul (leI n).toNat basePt := by
 unfold gB dP
 obtain ⟨h1, h2, h3⟩ := enc_dec (dW dt (leI n).toNat)
 exact ⟨h1, Prod.ext h2 h3⟩
theorem verP_gB {r a tx sg : List UInt8} (h : sg.take 32 = gB r) : verP (gB a) tx sg = pmul ((leI r).toNat + (leI a).toNat * (leI (hashB (gB r ++ gB a ++ tx))).toNat) basePt := by
 unfold verP
 rw [h, (kh r).2, (kh a).2, ← iy dt, ← dz dt]
set_option maxRecDepth 100000
theorem kh0 : HH (List.replicate 32 0) = l_h := by
 unfold HH
 rw [Go.Sha.i1 (pb := ([0, 0, 0, 0, 0, 0, 0, 0, 0, 0, 0, 0, 0, 0, 0, 0, 0, 0, 0, 0, 0, 0, 0, 0, 0, 0, 0, 0, 0, 0, 0, 0, 128, 0, 0, 0, 0, 0, 0, 0, 0, 0, 0, 0, 0, 0, 0, 0, 0, 0, 0, 0, 0, 0, 0, 0, 0, 0, 0, 0, 0, 0, 0, 0, 0, 0, 0, 0, 0, 0, 0, 0, 0, 0, 0, 0, 0, 0, 0, 0, 0, 0, 0, 0, 0, 0, 0, 0, 0, 0, 0, 0, 0, 0, 0, 0, 0, 0, 0, 0, 0, 0, 0, 0, 0, 0, 0, 0, 0, 0, 0, 0, 0, 0, 0, 0, 0, 0, 0, 0, 0, 0, 0, 0, 0, 0, 1, 0] : List UInt8)) (by decide) (by decide) (by decide +kernel) (by decide +kernel)]
 decide +kernel
theorem ksk : skB (List.replicate 32 0) = l_s := by unfold skB; rw [kh0]; decide +kernel
theorem kpx : pxB (List.replicate 32 0) = l_px := by unfold pxB; rw [kh0]; decide +kernel
theorem kga : gB l_s = pK := by
 have h := kM (f := 255) (n := 39325648866980652792715009169219496062012184734522019333892538943312776480336) (x := 9639205628789703341510410801487549615560488670885798085067615194958049462616) (y := 18930617471878267742194159801949745215346600387277955685031939302387136031291) (by decide +kernel) (by decide +kernel)
 unfold gB
 rw [show (leI l_s).toNat = 39325648866980652792715009169219496062012184734522019333892538943312776480336 from by decide +kernel, h]
 decide +kernel
theorem kpk : pkB (List.replicate 32 0) = pK := by unfold pkB; rw [ksk, kga]
theorem kh1 : HH (l_ma) = l_hr := by
 unfold HH
 rw [Go.Sha.i1 (pb := ([10, 106, 133, 234, 166, 66, 218, 200, 53, 66, 75, 93, 124, 141, 99, 124, 0, 64, 140, 122, 115, 218, 103, 43, 127, 73, 133, 33, 66, 11, 109, 211, 97, 128, 0, 0, 0, 0, 0, 0, 0, 0, 0, 0, 0, 0, 0, 0, 0, 0, 0, 0, 0, 0, 0, 0, 0, 0, 0, 0, 0, 0, 0, 0, 0, 0, 0, 0, 0, 0, 0, 0, 0, 0, 0, 0, 0, 0, 0, 0, 0, 0, 0, 0, 0, 0, 0, 0, 0, 0, 0, 0, 0, 0, 0, 0, 0, 0, 0, 0, 0, 0, 0, 0, 0, 0, 0, 0, 0, 0, 0, 0, 0, 0, 0, 0, 0, 0, 0, 0, 0, 0, 0, 0, 0, 0, 1, 8] : List UInt8)) (by decide) (by decide) (by decide +kernel) (by decide +kernel)]
 decide +kernel
theorem krb : rB (List.replicate 32 0) [97] = kV := by
 unfold rB hashB
 rw [kpx]
 rw [show l_px ++ [97] = l_ma from rfl, kh1]
 decide +kernel
theorem kgr : gB kV = li := by
 have h := kM (f := 255) (n := 7181184326793992088570470973156240928892923053541374345874775889579607004469) (x := 57424469103247101692668843822703452406020131022418294163025224199466881445546) (y := 9325306609193551227202014907241585160928628658924949105388706877074100801655) (by decide +kernel) (by decide +kernel)
 unfold gB
 rw [show (leI kV).toNat = 7181184326793992088570470973156240928892923053541374345874775889579607004469 from by decide +kernel, h]
 decide +kernel
theorem kh2 : HH (l_mb) = l_hk := by
 unfold HH
 rw [Go.Sha.i1 (pb := ([119, 80, 213, 221, 193, 50, 156, 219, 224, 181, 237, 117, 127, 0, 200, 234, 53, 171, 78, 23, 32, 208, 172, 199, 214, 54, 148, 81, 190, 239, 157, 20, 59, 106, 39, 188, 206, 182, 164, 45, 98, 163, 168, 208, 42, 111, 13, 115, 101, 50, 21, 119, 29, 226, 67, 166, 58, 192, 72, 161, 139, 89, 218, 41, 97, 128, 0, 0, 0, 0, 0, 0, 0, 0, 0, 0, 0, 0, 0, 0, 0, 0, 0, 0, 0, 0, 0, 0, 0, 0, 0, 0, 0, 0, 0, 0, 0, 0, 0, 0, 0, 0, 0, 0, 0, 0, 0, 0, 0, 0, 0, 0, 0, 0, 0, 0, 0, 0, 0, 0, 0, 0, 0, 0, 0, 0, 2, 8] : List UInt8)) (by decide) (by decide) (by decide +kernel) (by decide +kernel)]
 decide +kernel
theorem kh3 : HH (l_mc) = l_hk2 := by
 unfold HH
 rw [Go.Sha.i1 (pb := ([119, 80, 213, 221, 193, 50, 156, 219, 224, 181, 237, 117, 127, 0, 200, 234, 53, 171, 78, 23, 32, 208, 172, 199, 214, 54, 148, 81, 190, 239, 157, 20, 59, 106, 39, 188, 206, 182, 164, 45, 98, 163, 168, 208, 42, 111, 13, 115, 101, 50, 21, 119, 29, 226, 67, 166, 58, 192, 72, 161, 139, 89, 218, 41, 98, 128, 0, 0, 0, 0, 0, 0, 0, 0, 0, 0, 0, 0, 0, 0, 0, 0, 0, 0, 0, 0, 0, 0, 0, 0, 0, 0, 0, 0, 0, 0, 0, 0, 0, 0, 0, 0, 0, 0, 0, 0, 0, 0, 0, 0, 0, 0, 0, 0, 0, 0, 0, 0, 0, 0, 0, 0, 0, 0, 0, 0, 2, 8] : List UInt8)) (by decide) (by decide) (by decide +kernel) (by decide +kernel)]
 decide +kernel
theorem khb (h : li ++ pK ++ [97] = l_mb) : hashB (li ++ pK ++ [97]) = l_kb := by unfold hashB; rw [h, kh2]; decide +kernel
theorem khc (h : li ++ pK ++ [98] = l_mc) : hashB (li ++ pK ++ [98]) = l_k2b := by unfold hashB; rw [h, kh3]; decide +kernel
theorem ksS : sgS (List.replicate 32 0) [97] = lj := by
 unfold sgS
 rw [krb, ksk, kpk, kgr, khb rfl]
 decide +kernel
theorem ksg : sgB (List.replicate 32 0) [97] = gB kV ++ lj := by unfold sgB; rw [krb, ksS]
theorem kgS : gB lj = l_SE := by
 have h := kM (f := 255) (n := 3227255830459625268894830962772692551469787206272442507272722259647462303349) (x := 35258448469812251618733143802017561846163754012480596429951757082148501261969) (y := 9366278698107413320606727411137311322727098759470078643615885528027801471576) (by decide +kernel) (by decide +kernel)
 unfold gB
 rw [show (leI lj).toNat = 3227255830459625268894830962772692551469787206272442507272722259647462303349 from by decide +kernel, h]
 decide +kernel
theorem kver : verE (pkB (List.replicate 32 0)) [98] (sgB (List.replicate 32 0) [97]) = 31 := by
 have hp : pkB (List.replicate 32 0) = gB l_s := by unfold pkB; rw [ksk]
 have ht : (gB kV ++ lj).take 32 = gB kV := List.take_left' (fo _)
 have hd : (gB kV ++ lj).drop 32 = lj := List.drop_left' (fo _)
 have hn := kM (f := 255) (n := 2341663124490739071794982550895394070877092220273328156446242133076425742861) (x := 4557965206765101388145606311865845007866192190068363813737493414857729726554) (y := 30930227302714699157948232353255103122122248679019080290177519767715154184404) (by decide +kernel) (by decide +kernel)
 have hv : verP (gB l_s) [98] (gB kV ++ lj) = (fN 4557965206765101388145606311865845007866192190068363813737493414857729726554, fN 30930227302714699157948232353255103122122248679019080290177519767715154184404) := by
   rw [verP_gB ht, kgr, kga, khc rfl, ← qW, show ((leI kV).toNat + (leI l_s).toNat * (leI l_k2b).toNat) % Go.Proofs.YtllmbkmghmmhfaaGreatDoor.W.ordL = 2341663124490739071794982550895394070877092220273328156446242133076425742861 from by decide +kernel]
   exact hn
 rw [hp, ksg]
 unfold verE
 rw [if_neg (by rw [List.length_append, fo, fo]; decide), if_neg (by rw [(kh _).1]; decide), ht, hd, if_neg (by rw [(kh _).1]; decide +kernel), if_neg (by rw [kgS, hv]; decide +kernel)]
theorem kpub : (pkB (List.replicate 32 0)).length = 32 ∧ (pkB (List.replicate 32 0)).take 4 = [59, 106, 39, 188] := by rw [kpk]; decide +kernel
attribute [local irreducible] encB
theorem qs (v : Value) (xs : List UInt8) (w : World) (hv : RdB w v xs) (hx : xs.length ≤ 140737488351232) : Rets Tryz.prog 6 [v] w (fun r w' => ∃ u, r = cut u 0 xs.length 1 ∧ Own w' w.heap.size 5 1 u (xs.length + 2) (bv (xs ++ [201, 202])) ∧ Keep [] w w') := by
 have hB : Keep [] w w := Keep.refl _ _
 refine ac Tryz.func6 rfl (by decide) Tryz.ntmps6 rfl (fun fin _ hfin => a5 (aZ (oga rfl rfl (a6 (a5 (aZ ?_))))))
 have gl_oa := hB.size
 refine ad (d_bs0 aA cf rfl) rfl ?_
 rintro _ wg ⟨g, rfl, hge, hg0, kg⟩
 replace hB := hB.trans kg
 refine ogm rfl rfl (ad (rb (lo := w.heap.size) aA cf rfl rfl rfl hg0 (hge ▸ Nat.le_refl _) rfl (hv.sD hB) (by omega)) rfl ?_)
 rintro va wa ⟨oa, ka⟩
 replace hB := hB.trans ka
 refine oga rfl rfl (a6 (a5 (aZ (ogm rfl rfl ?_))))
 have hlo0 : w.heap.size ≤ wa.heap.size := Nat.le_trans kg.size ka.size
 refine ad (eO (m := 2) (xs := [.const (.int .u8 (201)), .const (.int .u8 (202))]) (vs := [_, _]) aA cf (by decide) rfl rfl rfl (by simp only [List.forall_mem_cons]; exact ⟨rfl, rfl, fun v hv => by cases hv⟩) (by decide)) rfl ?_
 rintro v1 w1 ⟨o1, nn1, lb1, k1, z1⟩
 replace oa := oa.sD k1
 replace hB := hB.trans k1
 replace o1 : Own w1 _ _ 1 v1 2 (bv [201, 202]) := o1
 have hlo := Nat.le_trans hlo0 k1.size
 refine ad (eI aA cf rfl oa rfl (show RdB _ _ [201, 202] from o1.rd) (by show xs.length + 2 ≤ _; omega) hlo) rfl ?_
 rintro vb wb ⟨ob, kb, _, _⟩
 replace hB := hB.new kb (fun x hx => .inl (Nat.le_trans gl_oa (oa.blk x hx).1))
 refine oga rfl rfl (a6 (a5 (aZ (ogm rfl rfl (ogm rfl rfl (a7 (cH aA rfl (by first | assumption | exact Own.rd ‹_› | exact Rd.sD ‹_› hB | exact Own.rd (Own.sD ‹_› hB))) rfl (a7 (gM aA cf rfl ob.rd (.inl ⟨rfl, rfl⟩) (.inr ⟨_, _, rfl, rfl⟩) (by have := ob.rd.vcap; have : [(201 : UInt8), 202].length = 2 := rfl; omega)) rfl (oga rfl rfl (a6 (a9 [(2, _)] ⟨rfl, trivial⟩ (bN hfin Tryz.results6 rfl ?_)))))))))))
 exact ⟨vb, rfl, ob.lo gl_oa, hB⟩
theorem oS (u v : Value) (xs : List UInt8) (lo : Nat) (w : World) (ho : Own w lo 5 1 u (xs.length + 2) (bv (xs ++ [201, 202]))) (hv : RdB w v xs) (hx : xs.length ≤ 140737488351232) : Rets Tryz.prog 10 [cut u 0 xs.length 1, v] w (fun r w' => r = .bool true ∧ Keep [] w w') := by
  have hB : Keep [] w w := Keep.refl _ _
  obtain ⟨u10, hu10⟩ : ∃ u10, u10 = cut (cut u 0 xs.length 1) (0 : Int).toNat ((xs.length : Int) + 2).toNat 1 := ⟨_, rfl⟩
  have hall : RdB w u (xs ++ [201, 202]) := by unfold RdB; rw [List.length_append]; exact ho.rd
  have h10 : RdB w u10 (xs ++ [201, 202]) := by
    have e : cut (cut u 0 xs.length 1) (0 : Int).toNat ((xs.length : Int) + 2).toNat 1 = cut u 0 (xs.length + 2) 1 := by rw [show (0 : Int).toNat = 0 from rfl, show ((xs.length : Int) + 2).toNat = xs.length + 2 by omega]; exact cut_cut hall
    rw [hu10, e]
    have h := hall.cutB (l := 0) (hi := xs.length + 2) (by omega) (by simp)
    rwa [List.drop_zero, Nat.sub_zero, List.take_of_length_le (by simp)] at h
  have h14 : RdB w (cut u10 0 xs.length 1) xs := by
    have h := h10.cutB (l := 0) (hi := xs.length) (by omega) (by simp)
    rwa [List.drop_zero, Nat.sub_zero, List.take_left' rfl] at h
  have hcap : (0 : Int) ≤ 0 ∧ (0 : Int) ≤ (xs.length : Int) + 2 ∧ (xs.length : Int) + 2 ≤ (vcap (cut u 0 xs.length 1) : Int) := by
    obtain ⟨A, c, e, h1, h2, _⟩ := hall
    subst e
    rw [List.length_append] at h1
    have h1 : xs.length + 2 ≤ c := h1
    refine ⟨Int.le_refl _, by omega, ?_⟩
    show (xs.length : Int) + 2 ≤ ((c - 0 : Nat) : Int)
    omega
  refine ac Tryz.func10 rfl (by decide) Tryz.ntmps10 rfl (fun fin _ hfin => a5 (aZ (oga rfl rfl (a6 (a5 (aZ (ogm rfl rfl (ogm rfl rfl ?_))))))))
  refine a7 (cH aA rfl (by first | assumption | exact Own.rd (by assumption) | exact Rd.sD (by assumption) hB | exact Own.rd (Own.sD (by assumption) hB))) rfl (a7 (bo rfl rfl (by omega)) rfl (a7 (v := u10) (by rw [hu10]; exact gM aA cf rfl (n5 ho) (.inl ⟨rfl, rfl⟩) (.inr ⟨_, _, rfl, rfl⟩) hcap) rfl (oga rfl rfl (a6 (a5 (bO 26 [0, 1, 2, 3, 4, 5, 6, 7, 8, 9, 10, 11, 12, 13, 14, 15, 16, 17, 18, 19, 20, 21, 22, 23, 24, 25] [] [] [] mixed [(5, _), (1, _)] ⟨rfl, rfl, trivial⟩ (by decide +kernel) (by decide) (by decide) ?_ (fun x hx => by cases hx) rfl (fun w1 k1 => ?_)))))))
  · intro q hq; cases hq
  replace hB := hB.trans k1
  refine cA 5 rfl rfl rfl rfl rfl (cA 1 rfl rfl rfl rfl rfl (al 12 rfl rfl rfl rfl (fun W' kk => cH aA rfl (by first | exact Rd.sD (by assumption) kk | exact Rd.sD (Own.rd (by assumption)) kk | exact Rd.sD (Rd.sD (by assumption) hB) kk | exact Rd.sD (Own.rd (Own.sD (by assumption) hB)) kk)) (cm 11 13 rfl rfl rfl rfl rfl (fun W' kk => gM aA cf rfl (by first | exact Rd.sD (by assumption) kk | exact Rd.sD (Own.rd (by assumption)) kk | exact Rd.sD (Rd.sD (by assumption) hB) kk | exact Rd.sD (Own.rd (Own.sD (by assumption) hB)) kk) (.inl ⟨rfl, rfl⟩) (.inr ⟨_, _, rfl, rfl⟩) (by have := h10.vcap; simp only [List.length_append, List.length_cons, List.length_nil] at this; omega)) (al 14 rfl rfl rfl rfl (fun W' kk => gt aA aH aW rfl (by first | exact Rd.sD (by assumption) kk | exact Rd.sD (Own.rd (by assumption)) kk | exact Rd.sD (Rd.sD (by assumption) hB) kk | exact Rd.sD (Own.rd (Own.sD (by assumption) hB)) kk)) (cA 1 rfl rfl rfl rfl rfl (al 16 rfl rfl rfl rfl (fun W' kk => gt aA aH aW rfl (by first | exact Rd.sD (by assumption) kk | exact Rd.sD (Own.rd (by assumption)) kk | exact Rd.sD (Rd.sD (by assumption) hB) kk | exact Rd.sD (Own.rd (Own.sD (by assumption) hB)) kk)) (cm 15 17 rfl rfl rfl rfl rfl (fun W' kk => ng rfl rfl) ?_)))))))
  refine cA 18 rfl rfl rfl rfl rfl (fK [(5, _), (19, _)] rfl rfl ⟨rfl, rfl, trivial⟩ rfl (grdT rfl rfl rfl (decide_eq_true rfl)) (fun W' kk => bb rfl) (fK [(1, _), (19, _)] rfl rfl ⟨rfl, rfl, trivial⟩ rfl (grdT rfl rfl rfl (decide_eq_true rfl)) (fun W' kk => bb rfl) (fK [(19, _), (21, _)] rfl rfl ⟨rfl, rfl, trivial⟩ rfl (grdT rfl rfl rfl (decide_eq_true rfl)) (fun W' kk => cH aA rfl (by first | exact Rd.sD (by assumption) kk | exact Rd.sD (Own.rd (by assumption)) kk | exact Rd.sD (Rd.sD (by assumption) hB) kk | exact Rd.sD (Own.rd (Own.sD (by assumption) hB)) kk)) (fK [(19, _), (20, _), (22, _)] rfl rfl ⟨rfl, rfl, rfl, trivial⟩ rfl (grdT rfl rfl rfl (decide_eq_true rfl)) (fun W' kk => bk aA cf rfl (by first | exact Rd.sD (by assumption) kk | exact Rd.sD (Own.rd (by assumption)) kk | exact Rd.sD (Rd.sD (by assumption) hB) kk | exact Rd.sD (Own.rd (Own.sD (by assumption) hB)) kk) rfl (by simp only [List.length_append, List.length_cons, List.length_nil]; omega)) (fK [(19, _), (23, _)] rfl rfl ⟨rfl, rfl, trivial⟩ rfl (grdT rfl rfl rfl (decide_eq_true rfl)) (fun W' kk => dI gg rfl (by first | exact Rd.sD (by assumption) kk | exact Rd.sD (Own.rd (by assumption)) kk | exact Rd.sD (Rd.sD (by assumption) hB) kk | exact Rd.sD (Own.rd (Own.sD (by assumption) hB)) kk) (by simp only [List.length_append, List.length_cons, List.length_nil]; omega)) ?_)))))
  refine fK [(19, _), (24, _)] rfl rfl ⟨rfl, rfl, trivial⟩ rfl (grdT rfl rfl rfl (decide_eq_true rfl)) (fun W' kk => fW rfl rfl) (cm 19 25 rfl rfl rfl rfl rfl (fun W' kk => fB rfl (decide_eq_true rfl) rfl) (cA 26 rfl rfl rfl rfl rfl (fK [(5, _), (27, _)] rfl rfl ⟨rfl, rfl, trivial⟩ rfl (grdT rfl rfl rfl (decide_eq_true (iW xs))) (fun W' kk => bb rfl) (fK [(1, _), (27, _)] rfl rfl ⟨rfl, rfl, trivial⟩ rfl (grdT rfl rfl rfl (decide_eq_true (iW xs))) (fun W' kk => bb rfl) (fK [(27, _), (29, _)] rfl rfl ⟨rfl, rfl, trivial⟩ rfl (grdT rfl rfl rfl (decide_eq_true (iW xs))) (fun W' kk => cH aA rfl (by first | exact Rd.sD (by assumption) kk | exact Rd.sD (Own.rd (by assumption)) kk | exact Rd.sD (Rd.sD (by assumption) hB) kk | exact Rd.sD (Own.rd (Own.sD (by assumption) hB)) kk)) (fK [(27, _), (30, _)] rfl rfl ⟨rfl, rfl, trivial⟩ rfl (grdT rfl rfl rfl (decide_eq_true (iW xs))) (fun W' kk => bo rfl rfl (by omega)) (fK [(27, _), (28, _), (31, _)] rfl rfl ⟨rfl, rfl, rfl, trivial⟩ rfl (grdT rfl rfl rfl (decide_eq_true (iW xs))) (fun W' kk => bk aA cf rfl (by first | exact Rd.sD (by assumption) kk | exact Rd.sD (Own.rd (by assumption)) kk | exact Rd.sD (Rd.sD (by assumption) hB) kk | exact Rd.sD (Own.rd (Own.sD (by assumption) hB)) kk) rfl (by simp only [List.length_append, List.length_cons, List.length_nil]; omega)) ?_)))))))
  refine fK [(27, _), (32, _)] rfl rfl ⟨rfl, rfl, trivial⟩ rfl (grdT rfl rfl rfl (decide_eq_true (iW xs))) (fun W' kk => dI gg rfl (by first | exact Rd.sD (by assumption) kk | exact Rd.sD (Own.rd (by assumption)) kk | exact Rd.sD (Rd.sD (by assumption) hB) kk | exact Rd.sD (Own.rd (Own.sD (by assumption) hB)) kk) (by simp only [List.length_append, List.length_cons, List.length_nil]; omega)) (fK [(27, _), (33, _)] rfl rfl ⟨rfl, rfl, trivial⟩ rfl (grdT rfl rfl rfl (decide_eq_true (iW xs))) (fun W' kk => fW rfl rfl) (cm 27 34 rfl rfl rfl rfl rfl (fun W' kk => fB rfl (decide_eq_true (iW xs)) rfl) (al 35 rfl rfl rfl rfl (fun W' kk => fM rfl) (cC (fun w2 k2 => ?_)))))
  replace hB := hB.trans k2
  refine bP (a6 (a9 [(4, _)] ⟨rfl, trivial⟩ (bN hfin Tryz.results10 rfl ?_)))
  exact ⟨by rw [decide_eq_true (mark2 xs)], hB⟩
end Go.Proofs.YtllmbkmghmmhfaaGreatDoor.W
namespace Go.Eng
open Go
theorem mD (w : World) (a : Addr) (k : Nat) (q : Addr) : (w.freeze a k).cell? q = w.cell? q := by
 unfold World.freeze
 split
 · rfl
 · unfold World.cell?
   simp only [Array.getElem?_modify]
   by_cases h : a.block = q.block
   · rw [if_pos h]
     cases hc : w.heap[q.block]? with
     | none => rfl
     | some o =>
       cases o <;> rfl
   · rw [if_neg h]
theorem lk (w : World) (a : Addr) (k : Nat) : Keep [a.block] w (w.freeze a k) := by
 unfold World.freeze
 split
 · exact Keep.refl _ _
 · refine ⟨rfl, rfl, rfl, ?_, fun j hj hn => ?_⟩
   · show w.heap.size ≤ (w.heap.modify a.block _).size
     rw [Array.size_modify]; exact Nat.le_refl _
   · show (w.heap.modify a.block _)[j]? = w.heap[j]?
     rw [Array.getElem?_modify, if_neg (fun e => hn (by rw [e]; exact List.mem_singleton.2 rfl))]
theorem ou {w : World} {a : Addr} {k s m : Nat} {v : Value} {cs : List Value} (h : Rd w s v m cs) : Rd (w.freeze a k) s v m cs := by
 obtain ⟨A, c, h1, h2, h3, h4, h5, h6⟩ := h
 exact ⟨A, c, h1, h2, h3, h4, h5, fun b hb j u hj => by rw [mD]; exact h6 b hb j u hj⟩
section
variable {P : Program} {n : Nat} {f : Fr} {w : World} {ty : TypeId}
theorem d_cvm {t e : TypeId} {x : Operand} {v : Value} {m : Nat} {cs : List Value} (ht : P.underlying t = some (.slice e)) (he : P.underlying e = some (.int .u8)) (hx : f.ev x = some v) (hr : Rd w 1 v m cs) (hn : isNil v = false) :
   Does P n f w (.convert t t x) ty (fun v' w' => v' = v ∧ Rd w' 1 v m cs ∧ Keep (vblk v) w w' ∧ w'.heap.size = w.heap.size) := by
 intro a ha dst pos aft g K Q hK
 obtain ⟨A, c, rfl, _⟩ := id hr
 cases A with
 | none => cases hn
 | some b =>
   have key : ∃ w', (execOp a.eval ⟨dst, .convert t t x, ty, pos, aft, g⟩).run P w = .ok (.value (.slice (some b) m c)) w' ∧ Rd w' 1 (.slice (some b) m c) m cs ∧ Keep (vblk (.slice (some b) m c)) w w' ∧ w'.heap.size = w.heap.size := by
     cases hs : w.shape? b.block with
     | none =>
       refine ⟨w, ?_, hr, Keep.refl _ _, rfl⟩
       simp [execOp, ha.ev hx, convert, run_underlying ht, run_underlying he, markStringish, hs]
     | some q =>
       obtain ⟨qt, qn⟩ := q
       refine ⟨w.freeze ⟨b.block, qn, none⟩ 1, ?_, ou hr, lk w ⟨b.block, qn, none⟩ 1, ?_⟩
       · simp [execOp, ha.ev hx, convert, run_underlying ht, run_underlying he, markStringish, hs]
       · unfold World.freeze
         rw [if_neg (by decide)]
         exact Array.size_modify
   obtain ⟨w', h1, h2, h3, h4⟩ := key
   unfold Oper.wp
   rw [h1]
   exact hK _ _ ⟨rfl, h2, h3, h4⟩
end
end Go.Eng
namespace Go.Proofs.YtllmbkmghmmhfaaGreatDoor.W
open Go Go.Eng Go.Byt
open Go.Fld Go.Ed
theorem gn (e : Int) (w : World) : Rets Tryz.prog 9 [.int .i64 e] w (fun r w' => r = .int .i64 e ∧ Keep [] w w') := by
 have hB : Keep [] w w := Keep.refl _ _
 refine ac Tryz.func9 rfl (by decide) Tryz.ntmps9 rfl (fun fin _ hfin => a5 (aZ (oga rfl rfl (a6 (a5 (aZ (ogm rfl rfl (oga rfl rfl (a6 (bN hfin Tryz.results9 rfl ?_))))))))))
 exact ⟨rfl, hB⟩
theorem qw (v : Value) (w : World) (hT : Tabs w) (hv : RdB w v (List.replicate 32 0)) : Rets Tryz.prog 7 [v] w (fun r w' => ∃ u, r = .tuple #[u, .int .i64 0] ∧ OwnB w' w.heap.size u (pkB (List.replicate 32 0)) ∧ Keep [] w w') := by
  have h := lL v (List.replicate 32 0) w hT hv
  rw [show pkE (List.replicate 32 0) = 0 from if_pos (by decide), show pkR (List.replicate 32 0) = pkB (List.replicate 32 0) from if_pos (by decide)] at h
  exact h
theorem pL (v vt : Value) (w : World) (hT : Tabs w) (hv : RdB w v (List.replicate 32 0)) (hy : RdB w vt [97]) : Rets Tryz.prog 12 [v, vt] w (fun r w' => ∃ u, r = .tuple #[u, .int .i64 0] ∧ OwnB w' w.heap.size u (sgB (List.replicate 32 0) [97]) ∧ Keep [] w w') := by
  have h := oT v vt (List.replicate 32 0) [97] w hT hv hy (by decide)
  rw [show sgE (List.replicate 32 0) = 0 from if_pos (by decide), show sgR (List.replicate 32 0) [97] = sgB (List.replicate 32 0) [97] from if_pos (by decide)] at h
  exact h
theorem qv (va vb vc : Value) (w : World) (hT : Tabs w) (ha : RdB w va (pkB (List.replicate 32 0))) (hb : RdB w vb [98]) (hc : RdB w vc (sgB (List.replicate 32 0) [97])) : Rets Tryz.prog 14 [va, vb, vc] w (fun r w' => r = .int .i64 31 ∧ Keep [] w w') := by
  have h := pt va vb vc _ [98] _ w hT ha hb hc (by decide)
  rw [kver] at h
  exact h
theorem mq (w : World) (hT : Tabs w) : Rets Tryz.prog 11 [] w (fun r w' => r = .bool true ∧ Keep [] w w') := by
 have hB : Keep [] w w := Keep.refl _ _
 refine ac Tryz.func11 rfl (by decide) Tryz.ntmps11 rfl (fun fin _ hfin => a5 (aZ (oga rfl rfl (a6 (a5 (aZ (ad (rZ aA cf rfl rfl (by omega) (by constructor <;> omega)) rfl ?_)))))))
 rintro v1 w1 ⟨o1, nn1, lb1, k1, z1⟩
 have go_v1 := fun x hx => (show w.heap.size ≤ x from by have h1 := (o1.blk x hx).1; have h2 := hB.size; omega)
 have gl_o1 := hB.size
 replace hB := hB.trans k1
 replace o1 : Own w1 _ 5 1 v1 32 [.int .u8 0, .int .u8 0, .int .u8 0, .int .u8 0, .int .u8 0, .int .u8 0, .int .u8 0, .int .u8 0, .int .u8 0, .int .u8 0, .int .u8 0, .int .u8 0, .int .u8 0, .int .u8 0, .int .u8 0, .int .u8 0, .int .u8 0, .int .u8 0, .int .u8 0, .int .u8 0, .int .u8 0, .int .u8 0, .int .u8 0, .int .u8 0, .int .u8 0, .int .u8 0, .int .u8 0, .int .u8 0, .int .u8 0, .int .u8 0, .int .u8 0, .int .u8 0] := o1
 replace o1 : OwnB w1 w.heap.size v1 (List.replicate 32 0) := by have e := o1.lo gl_o1; unfold OwnB; rw [List.length_replicate]; exact e
 refine oga rfl rfl (a6 (a5 (aZ (ogm rfl rfl (ad (a8 (vs := [_]) rfl (qw _ _ (hT.sD hB) (by have e := o1.rd; exact e))) rfl ?_)))))
 rintro _ w2 ⟨v2, rfl, o2, k2⟩
 replace o1 := o1.sD k2
 replace hB := hB.trans k2
 refine ogm rfl rfl (a7 (bJ (vs := [_, _]) rfl rfl) rfl (a7 (bJ (vs := [_, _]) rfl rfl) rfl (oga rfl rfl (oga rfl rfl (a6 (a5 (aZ (ogm rfl rfl ?_))))))))
 have ltz1 := fun x hx => (o1.blk x hx).2
 have ltz2 := fun x hx => (o2.blk x hx).2
 refine ad (eO (m := 1) (xs := [.const (.int .u8 (97))]) (vs := [_]) aA cf (by decide) rfl rfl rfl (by first | (simp; done) | (intro v hv; rw [List.mem_singleton] at hv; subst hv; rfl)) (by decide)) rfl ?_
 rintro v3 w3 ⟨o3, nn2, lb2, k3, z2⟩
 have gl_o3 := hB.size
 replace o1 := o1.sD k3
 replace o2 := o2.sD k3
 replace hB := hB.trans k3
 replace o3 : Own w3 _ _ 1 v3 1 (bv [97]) := o3
 refine ad (d_cvm aA aH rfl o3.rd nn2) rfl ?_
 rintro _ w4 ⟨rfl, r15, k4, _⟩
 replace hB := hB.new k4 (fun x hx => .inl (Nat.le_trans gl_o3 (o3.blk x hx).1))
 replace o1 := o1.keep k4 (fun x hx hm => by have h1 := ltz1 x hx; have h2 := (o3.blk x hm).1; omega)
 replace o2 := o2.keep k4 (fun x hx hm => by have h1 := ltz2 x hx; have h2 := (o3.blk x hm).1; omega)
 refine ad (a8 (vs := [_, _]) rfl (pL _ _ _ (hT.sD hB) (by have e := o1.rd; exact e) ‹_›)) rfl ?_
 rintro _ w5 ⟨v4, rfl, o4, k5⟩
 replace o1 := o1.sD k5
 replace o2 := o2.sD k5
 replace r15 := r15.sD k5
 replace hB := hB.trans k5
 refine ogm rfl rfl (a7 (bJ (vs := [_, _]) rfl rfl) rfl (a7 (bJ (vs := [_, _]) rfl rfl) rfl (oga rfl rfl (oga rfl rfl (a6 (a9 [(2, _), (3, _), (4, _), (5, _)] ⟨rfl, rfl, rfl, rfl, trivial⟩ (a5 (aZ (ogm rfl rfl (ad (a8 (vs := [_]) rfl (gn _ _)) rfl ?_))))))))))
 rintro _ w6 ⟨rfl, k6⟩
 replace o1 := o1.sD k6
 replace o2 := o2.sD k6
 replace r15 := r15.sD k6
 replace o4 := o4.sD k6
 replace hB := hB.trans k6
 refine ogm rfl rfl (ad (a8 (vs := [_]) rfl (gn _ _)) rfl ?_)
 rintro _ w7 ⟨rfl, k7⟩
 replace o1 := o1.sD k7
 replace o2 := o2.sD k7
 replace r15 := r15.sD k7
 replace o4 := o4.sD k7
 replace hB := hB.trans k7
 refine a7 (bC (j := 0) (ay rfl rfl) (by decide)) rfl (a7 (fW rfl rfl) rfl (ogm rfl rfl (d5 (grdT rfl rfl rfl (by decide)) (bb rfl) rfl (d5 (grdT rfl rfl rfl (by decide)) (cH aA rfl o2.rd) rfl (d5 (grdT rfl rfl rfl (by decide)) (fW rfl rfl) rfl (a7 (fB rfl (by decide) rfl) rfl (ogm rfl rfl (d5 (grdT rfl rfl rfl (decide_eq_true (by rw [kpub.1]; rfl))) (bb rfl) rfl ?_))))))))
 have r32 : RdB w7 (cut v2 0 4 1) ((pkB (List.replicate 32 0)).take 4) := by have e := (show RdB w7 v2 (pkB (List.replicate 32 0)) from o2.rd).cutB (l := 0) (hi := 4) (by decide) (by rw [kpub.1]; decide); rwa [List.drop_zero] at e
 refine d5 (grdT rfl rfl rfl (decide_eq_true (by rw [kpub.1]; rfl))) (cT (v' := (cut v2 0 4 1)) (gM aA cf rfl o2.rd (.inl ⟨rfl, rfl⟩) (.inr ⟨_, _, rfl, rfl⟩) (by have h1 := o2.rd.vcap.1; have h2 := kpub.1; omega)) rfl) rfl (d5 (grdT rfl rfl rfl (decide_eq_true (by rw [kpub.1]; rfl))) (gt aA aH aW rfl (by first | assumption | exact Own.rd ‹_› | exact Rd.sD ‹_› hB | exact Own.rd (Own.sD ‹_› hB))) rfl (d5 (grdT rfl rfl rfl (decide_eq_true (by rw [kpub.1]; rfl))) (ng (a := (pkB (List.replicate 32 0)).take 4) (b := [59, 106, 39, 188]) rfl rfl) rfl (a7 (fB rfl (decide_eq_true (by rw [kpub.1]; rfl)) rfl) rfl (ogm rfl rfl (d5 (grdT rfl rfl rfl (decide_eq_true kpub.2)) (bb rfl) rfl ?_)))))
 have ltz3 := fun x hx => (o1.blk x hx).2
 have ltz4 := fun x hx => (o2.blk x hx).2
 have ltz5 := fun x hx => (o4.blk x hx).2
 refine jC (grdT rfl rfl rfl (decide_eq_true kpub.2)) (eO (m := 1) (xs := [.const (.int .u8 (98))]) (vs := [_]) aA cf (by decide) rfl rfl rfl (by first | (simp; done) | (intro v hv; rw [List.mem_singleton] at hv; subst hv; rfl)) (by decide)) rfl ?_
 rintro v5 w8 ⟨o5, nn3, lb3, k8, z3⟩
 have gl_o5 := hB.size
 replace o1 := o1.sD k8
 replace o2 := o2.sD k8
 replace r15 := r15.sD k8
 replace o4 := o4.sD k8
 replace hB := hB.trans k8
 replace o5 : Own w8 _ _ 1 v5 1 (bv [98]) := o5
 refine jC (grdT rfl rfl rfl (decide_eq_true kpub.2)) (d_cvm aA aH rfl o5.rd nn3) rfl ?_
 rintro _ w9 ⟨rfl, r39, k9, _⟩
 replace hB := hB.new k9 (fun x hx => .inl (Nat.le_trans gl_o5 (o5.blk x hx).1))
 replace o1 := o1.keep k9 (fun x hx hm => by have h1 := ltz3 x hx; have h2 := (o5.blk x hm).1; omega)
 replace o2 := o2.keep k9 (fun x hx hm => by have h1 := ltz4 x hx; have h2 := (o5.blk x hm).1; omega)
 replace o4 := o4.keep k9 (fun x hx hm => by have h1 := ltz5 x hx; have h2 := (o5.blk x hm).1; omega)
 refine d5 (grdT rfl rfl rfl (decide_eq_true kpub.2)) (bb rfl) rfl (jC (grdT rfl rfl rfl (decide_eq_true kpub.2)) (a8 (vs := [_, _, _]) rfl (qv _ _ _ _ (hT.sD hB) (by have e := o2.rd; exact e) ‹_› (by have e := o4.rd; exact e))) rfl ?_)
 rintro _ w10 ⟨rfl, k10⟩
 replace hB := hB.trans k10
 refine jC (grdT rfl rfl rfl (decide_eq_true kpub.2)) (a8 (vs := [_]) rfl (gn _ _)) rfl ?_
 rintro _ w11 ⟨rfl, k11⟩
 replace hB := hB.trans k11
 refine d5 (grdT rfl rfl rfl (decide_eq_true kpub.2)) (fW rfl rfl) rfl (a7 (fB rfl (decide_eq_true kpub.2) rfl) rfl (oga rfl rfl (a6 (a9 [(0, _)] ⟨rfl, trivial⟩ (bN hfin Tryz.results11 rfl ?_)))))
 exact ⟨rfl, hB⟩
theorem iY (v : Value) (xs : List UInt8) (w : World) (hT : Tabs w) (hv : RdB w v xs) (hx : xs.length ≤ 140737488351232) : Rets Tryz.prog 3 [v] w (fun r w' => r = .bool true ∧ Keep [] w w') := by
 have hB : Keep [] w w := Keep.refl _ _
 refine ac Tryz.func3 rfl (by decide) Tryz.ntmps3 rfl (fun fin _ hfin => a5 (aZ (oga rfl rfl (a6 (a5 (aZ (ogm rfl rfl (ad (a8 (vs := [_]) rfl (qs _ xs _ (hv.sD hB) hx)) rfl ?_))))))))
 rintro _ w1 ⟨u1, rfl, o1, k1⟩
 replace hB := hB.trans k1
 refine oga rfl rfl (a6 (a5 (aZ (ogm rfl rfl (ad (a8 (vs := [_]) rfl (lL _ xs _ (hT.sD hB) (n5 o1))) rfl ?_)))))
 rintro _ w2 ⟨v1, rfl, o2, k2⟩
 replace o1 := o1.sD k2
 replace hB := hB.trans k2
 refine ogm rfl rfl (a7 (bJ (vs := [_, _]) rfl rfl) rfl (a7 (bJ (vs := [_, _]) rfl rfl) rfl (oga rfl rfl (oga rfl rfl (a6 (a5 (aZ (ogm rfl rfl (ad (a8 (vs := [_]) rfl (qI _ xs _ (hv.sD hB))) rfl ?_)))))))))
 rintro _ w3 ⟨v2, rfl, o3, k3⟩
 replace o1 := o1.sD k3
 replace o2 := o2.sD k3
 replace hB := hB.trans k3
 refine ogm rfl rfl (a7 (bJ (vs := [_, _]) rfl rfl) rfl (a7 (bJ (vs := [_, _]) rfl rfl) rfl (oga rfl rfl (oga rfl rfl (a6 (a9 [(0, _), (3, _), (4, _), (5, _), (6, _), (7, _)] ⟨rfl, rfl, rfl, rfl, rfl, rfl, trivial⟩ (a5 (aZ (ogm rfl rfl (a7 (gt aA aH aW rfl o2.rd) rfl (ogm rfl rfl (a7 (gt aA aH aW rfl o3.rd) rfl (a7 (ng rfl rfl) rfl (ogm rfl rfl (d5 (grdT rfl rfl rfl (decide_eq_true rfl)) (bb rfl) rfl (jC (grdT rfl rfl rfl (decide_eq_true rfl)) (a8 (vs := [_]) rfl (gn _ _)) rfl ?_))))))))))))))))
 rintro _ w4 ⟨rfl, k4⟩
 replace o1 := o1.sD k4
 replace hB := hB.trans k4
 refine d5 (grdT rfl rfl rfl (decide_eq_true rfl)) (bb rfl) rfl (d5 (grdT rfl rfl rfl (decide_eq_true rfl)) (fW rfl rfl) rfl (a7 (fB rfl (decide_eq_true rfl) rfl) rfl (ogm rfl rfl (d5 (grdT rfl rfl rfl (decide_eq_true rfl)) (bb rfl) rfl (d5 (grdT rfl rfl rfl (decide_eq_true rfl)) (bb rfl) rfl (jC (grdT rfl rfl rfl (decide_eq_true rfl)) (a8 (vs := [_, _]) rfl (oS _ _ xs _ _ o1 (hv.sD hB) hx)) rfl ?_))))))
 rintro _ w5 ⟨rfl, k5⟩
 replace hB := hB.trans k5
 refine a7 (fB rfl (decide_eq_true rfl) rfl) rfl (ogm rfl rfl (jC (grdT rfl rfl rfl rfl) (a8 (vs := []) rfl (mq _ (hT.sD hB))) rfl ?_))
 rintro _ w6 ⟨rfl, k6⟩
 replace hB := hB.trans k6
 refine a7 (fB rfl rfl rfl) rfl (oga rfl rfl (a6 (a9 [(2, _)] ⟨rfl, trivial⟩ (bN hfin Tryz.results3 rfl ?_))))
 exact ⟨rfl, hB⟩
end Go.Proofs.YtllmbkmghmmhfaaGreatDoor.W
namespace Go.Proofs.YtllmbkmghmmhfaaGreatDoor.SignDone
open Go Go.Eng Go.Byt Go.Sha Go.ChangeShapes Go.WideShapes Go.ChangeAt Go.RowKit Go.Proofs.YtllmbkmghmmhfaaGreatDoor.W
theorem qJ {W : World} {nm : String} {g T E m fuel : Nat} {zs : List Int} {cs : Array Value} {p : List MemPlace} (hg : Tryz.prog.globalNamed nm = some g) (hT : Tryz.prog.underlying T = some (.array m E)) (hE : Tryz.prog.underlying E = some (.int .u64)) (hc : Tryz.prog.cellsOf E = 1) (hm : zs.length = m)
   (hv : W.var? Tryz.prog nm = some cs) (hd : DataW.trod (fun _ => ()) Tryz.prog W 0 (fun _ => true) false fuel T cs.toList = some (.agg (zs.map fun n => .lit (.int .u64 n)), p)) : Row W ⟨g, 0, none⟩ (zs.map fun n => .int .u64 n) := by
 intro r u hu
 obtain ⟨xs, m', _, ex, _, hl, hel⟩ := DataW.trod_array hT hd
 have hr : r < zs.length := by
   rcases Nat.lt_or_ge r zs.length with h | h
   · exact h
   · rw [List.getElem?_eq_none (by rw [List.length_map]; exact h)] at hu; cases hu
 have hE' := hel r (by omega)
 rw [hc, Nat.mul_one, List.getElem?_eq_getElem (by omega)] at hE'
 obtain ⟨z, e1, e2, _⟩ := DataW.trod_int hE hE'
 have e3 : (xs.map (·.1)) = zs.map fun n => .lit (.int .u64 n) := (DataW.agg.inj (Prod.mk.inj ex).1).symm
 have e4 : (xs.map (·.1))[r]? = (zs.map fun n => (DataW.lit (.int .u64 n) : DataW Unit))[r]? := by rw [e3]
 rw [List.getElem?_map, List.getElem?_map, List.getElem?_eq_getElem (by omega : r < xs.length), List.getElem?_eq_getElem hr, e2] at e4
 have hz : z = zs[r] := by
   simp only [Option.map_some, Option.some.injEq, DataW.lit.injEq, Lit.int.injEq, true_and] at e4
   exact e4
 rw [List.getElem?_map, List.getElem?_eq_getElem hr] at hu
 simp only [Option.map_some, Option.some.injEq] at hu
 have e5 : cs.toList[r]? = some (.int .u64 z) := by
   have h0 : ((cs.toList.drop r).take 1)[0]? = some (.int .u64 z) := by rw [e1]; rfl
   simpa using h0
 have e6 : (⟨g, 0, none⟩ : Addr).add r = ⟨g, r, none⟩ := by rw [Addr.add_lit, Nat.zero_add]
 rw [e6, World.var?_cell hg hv r, ← hu, ← hz]
 simpa using e5
theorem sq_data : (Rows.laid_synod_sha_squares : DataW Unit) = .agg (((KB Hl).map fun x => (x.toNat : Int)).map fun n => .lit (.int .u64 n)) := by kernel_rfl
theorem cu_data : (Rows.laid_synod_sha_cubes : DataW Unit) = .agg (((KB Kl).map fun x => (x.toNat : Int)).map fun n => .lit (.int .u64 n)) := by kernel_rfl
theorem py : iv .u64 8 (wN (KB Hl)) = ((KB Hl).map fun x => (x.toNat : Int)).map fun n => .int .u64 n := by kernel_rfl
theorem re : iv .u64 80 (wN (KB Kl)) = ((KB Kl).map fun x => (x.toNat : Int)).map fun n => .int .u64 n := by kernel_rfl
theorem tabs_of {W : World} (h : laidMetH Tryz.prog [("synod/sha.cubes", Rows.laid_synod_sha_cubes), ("synod/sha.squares", Rows.laid_synod_sha_squares)] W) : Tabs W := by
 rw [MakeChecks.laidMetH_plain _ _ _ (by kernel_rfl)] at h
 obtain ⟨ps, ⟨g, t, cs, fuel, p, q, hg, ht, hv, hd, ⟨g', t', cs', fuel', p', q', hg', ht', hv', hd', _, _⟩, _⟩, _, _⟩ := h
 obtain rfl := Option.some.inj ((show Tryz.prog.globalNamed "synod/sha.cubes" = some 1 by kernel_rfl).symm.trans hg)
 obtain rfl := Option.some.inj ((show (Tryz.prog.globals[1]?).map (·.type) = some 150 by kernel_rfl).symm.trans ht)
 obtain rfl := Option.some.inj ((show Tryz.prog.globalNamed "synod/sha.squares" = some 0 by kernel_rfl).symm.trans hg')
 obtain rfl := Option.some.inj ((show (Tryz.prog.globals[0]?).map (·.type) = some 131 by kernel_rfl).symm.trans ht')
 rw [cu_data] at hd
 rw [sq_data] at hd'
 have c5 : Tryz.prog.cellsOf 47 = 1 := by kernel_rfl
 refine ⟨?_, ?_⟩
 · rw [py]; exact qJ hg' aD aM c5 (by decide +kernel) hv' hd'
 · rw [re]; exact qJ hg aT aM c5 (by decide +kernel) hv hd
theorem own : ownKnob Tryz.prog.godebug = none := by kernel_rfl
theorem laidOut : laidOutB Tryz.prog = true := by kernel_rfl
end Go.Proofs.YtllmbkmghmmhfaaGreatDoor.SignDone
