/- Contracts and laws, part 6 of 6: what each function of the program and of the reference computes, shown once. -/
import Derived.LaidMore
import Derived.Lay
import Derived.OpenShut
import Derived.ProofKit
import Derived.SevenTiedAt
import Derived.Stop.Joined
import Derived.Test.YtllmbkmghmmhfaaGreatDoorRows
import Derived.Test.YtllmbkmghmmhfaaGreatDoorXve
set_option maxRecDepth 100000
set_option maxHeartbeats 4000000
set_option linter.unusedVariables false
set_option linter.unusedSimpArgs false
namespace Go.Proofs.YtllmbkmghmmhfaaGreatDoor.W
open Go Go.Eng Go.Byt
open Go.Fld Go.Ed
def pbit (low width i : Int) : Bool := decide (width ≤ i) || decide (bits .and .i64 (low.fdiv (2 ^ min (IntKind.u64.wrap i).toNat IntKind.i64.bits)) 1 = 1)
def pe (low width bts : Int) : Nat → Nat
 | 0 => 0
 | j + 1 => 2 * pe low width bts j + bif pbit low width (bts - 1 - (j : Int)) then 1 else 0
theorem wrap_nn (x : Int) : 0 ≤ IntKind.u64.wrap x := by rw [cc (k := .u64) rfl]; exact Int.emod_nonneg _ (by decide)
theorem rF (a : Fp) (low width bts : Int) : fpow a (pe low width bts (bts - 1 - (bts - 1)).toNat) = fp 1 := by rw [Int.sub_self]; exact iX.symm
theorem pe_at {low width bts i : Int} (h0 : 0 ≤ i) (h1 : i ≤ bts - 1) : pe low width bts (bts - 1 - (i - 1)).toNat = 2 * pe low width bts (bts - 1 - i).toNat + bif pbit low width i then 1 else 0 := by
 rw [show (bts - 1 - (i - 1)).toNat = (bts - 1 - i).toNat + 1 by omega, pe, show bts - 1 - (((bts - 1 - i).toNat : Nat) : Int) = i by omega]
theorem pe_F {a : Fp} {low width bts i : Int} (h0 : 0 ≤ i) (h1 : i ≤ bts - 1) (hb : pbit low width i = false) : fpow a (pe low width bts (bts - 1 - i).toNat) * fpow a (pe low width bts (bts - 1 - i).toNat) = fpow a (pe low width bts (bts - 1 - (i - 1)).toNat) := by
 rw [pe_at h0 h1, hb, cond_false, Nat.add_zero, Nat.two_mul, d7]
theorem pe_T {a : Fp} {low width bts i : Int} (h0 : 0 ≤ i) (h1 : i ≤ bts - 1) (hb : pbit low width i = true) : fpow a (pe low width bts (bts - 1 - i).toNat) * fpow a (pe low width bts (bts - 1 - i).toNat) * a = fpow a (pe low width bts (bts - 1 - (i - 1)).toNat) := by
 rw [pe_at h0 h1, hb, cond_true, Nat.two_mul, d7, d7, jS]
theorem pe_end {a : Fp} {low width bts i : Int} (h : -1 ≤ i) (h0 : ¬ 0 ≤ i) : fpow a (pe low width bts (bts - 1 - i).toNat) = fpow a (pe low width bts bts.toNat) := by
 rw [show bts - 1 - i = bts by omega]
theorem pe_inv : pe 11 5 255 (255 : Int).toNat = P - 2 := by decide +kernel
theorem pe_root : pe 14 4 252 (252 : Int).toNat = 7237005577332262213973186563042994240829374041602535252466099000494570602494 := by decide +kernel
theorem pe_m1 : pe 3 3 253 (253 : Int).toNat = 14474011154664524427946373126085988481658748083205070504932198000989141204987 := by decide +kernel
theorem fp_two : fp 2 = 2 := by decide
theorem fJ (f g : Nat → Int) (a b : Fp) (hf : RN f a) (hg : RN g b) (w : World) : Rets Tryz.prog 78 [.agg (iv .i64 16 f).toArray, .agg (iv .i64 16 g).toArray] w (fun v w' => v = .bool (decide (a = b)) ∧ Keep [] w w') := by
 have hB : Keep [] w w := Keep.refl _ _
 refine ac Tryz.func78 rfl (by decide) Tryz.ntmps78 rfl (fun fin _ hfin => a5 (aZ (ad (bc (cs := iv .i64 16 f) rfl rfl) rfl ?_)))
 rintro _ w1 ⟨b1, rfl, eb1, hb1, k1, z1⟩
 replace hB := hB.trans k1
 clear eb1 z1
 refine ad (bc (cs := iv .i64 16 g) rfl rfl) rfl ?_
 rintro _ w2 ⟨b2, rfl, eb2, hb2, k2, z2⟩
 obtain ⟨hB, hb1⟩ := bN k2 hB hb1
 clear eb2 z2
 refine oga rfl rfl (a6 (a5 (bf 7 [0, 3, 1, 2, 4, 5, 6] [1, 4] [] mixed [(2, _), (3, _), (4, _)] ⟨rfl, rfl, rfl, trivial⟩ (by decide +kernel) rfl (fun w3 k3 => ?_))))
 obtain ⟨hB, hb1, hb2⟩ := ca k3 hB hb1 hb2
 refine am 2 rfl rfl rfl rfl (fun W' kk => aa (cs' := iv .i64 16 f) bm bA rfl (Bk.s8 hb1 kk) rfl rfl) (am 3 rfl rfl rfl rfl (fun W' kk => aa (cs' := iv .i64 16 g) bm bA rfl (Bk.s8 hb2 kk) rfl rfl) (bq [(5, _)] rfl rfl ⟨rfl, trivial⟩ rfl (a8 (vs := [_]) rfl (eG _ _ hf _)) ?_))
 rintro v1 w4 ⟨o1, k4⟩
 refine ⟨k4, ?_⟩
 replace hB := hB.trans k4
 refine am 6 rfl rfl rfl rfl (fun W' kk => gC aA aH aT rfl (o1.s8 kk).rd) (bq [(8, _)] rfl rfl ⟨rfl, trivial⟩ rfl (a8 (vs := [_]) rfl (eG _ _ hg _)) ?_)
 rintro v2 w5 ⟨o2, k5⟩
 refine ⟨k5, ?_⟩
 replace hB := hB.trans k5
 refine am 9 rfl rfl rfl rfl (fun W' kk => gC aA aH aT rfl (o2.s8 kk).rd) (cF 7 10 rfl rfl rfl rfl rfl (fun W' kk => oN rfl rfl) (bz (oga rfl rfl (a6 (bG hfin Tryz.results78 rfl ?_)))))
 exact ⟨by rw [oR], hB⟩
theorem ga (f : Nat → Int) (a : Fp) (bts low width : Int) (hf : RN f a) (hb : 0 ≤ bts ∧ bts ≤ 1000) (w : World) : Rets Tryz.prog 99 [.agg (iv .i64 16 f).toArray, .int .i64 bts, .int .i64 low, .int .i64 width] w (fun v w' => ∃ r, v = .agg (iv .i64 16 r).toArray ∧ RN r (fpow a (pe low width bts bts.toNat)) ∧ Keep [] w w') := by
 have hB : Keep [] w w := Keep.refl _ _
 refine ac Tryz.func99 rfl (by decide) Tryz.ntmps99 rfl (fun fin _ hfin => a5 (aZ (ad (bc (cs := iv .i64 16 f) rfl rfl) rfl ?_)))
 rintro _ w1 ⟨b1, rfl, eb1, hb1, k1, z1⟩
 replace hB := hB.trans k1
 clear eb1 z1
 refine ad (aj bA) rfl ?_
 rintro _ w2 ⟨b2, rfl, eb2, hb2, k2, z2⟩
 have ge_b2 : w.heap.size ≤ b2 := by have := hB.size; omega
 obtain ⟨hB, hb1⟩ := bN k2 hB hb1
 clear eb2 z2
 replace hb2 : Bk w2 b2 65 (iv .i64 16 (fun _ => 0)) := by rw [iv, bE]; exact hb2
 refine a6 (a5 (aZ (ad (a8 (vs := [_]) rfl (cx 1 (by decide) _)) rfl ?_)))
 rintro _ w3 ⟨hh1, rfl, E1, C1, k3⟩
 obtain ⟨hB, hb1, hb2⟩ := ca k3 hB hb1 hb2
 refine ad (aj bA) rfl ?_
 rintro _ w4 ⟨b3, rfl, eb3, hb3, k4, z3⟩
 have ge_b3 : w.heap.size ≤ b3 := by have := hB.size; omega
 have ne_b1_b3 : b1 ≠ b3 := by have := hb1.lt; omega
 have ne_b2_b3 : b2 ≠ b3 := by have := hb2.lt; omega
 obtain ⟨hB, hb1, hb2⟩ := ca k4 hB hb1 hb2
 clear eb3 z3
 replace hb3 : Bk w4 b3 65 (iv .i64 16 (fun _ => 0)) := by rw [iv, bE]; exact hb3
 refine ae (bh (vs := iv .i64 16 hh1) bA rfl rfl rfl ai hb3 rfl) ?_
 rintro _ w5 ⟨hb4, k5, z4⟩
 replace hb1 := hb1.keep k5 (nm ne_b1_b3)
 replace hb2 := hb2.keep k5 (nm ne_b2_b3)
 replace hB := hB.new k5 (nw ge_b3)
 clear z4
 refine a6 (a5 (a5 (aZ (ogm rfl rfl (a7 (cj rfl rfl (by omega)) rfl (oga rfl rfl (a6 (ab (bK (Γ := Int × (Nat → Int)) (fun ⟨i, n⟩ => [(4, .pointer (some ⟨b1, 0, none⟩)), (8, .pointer (some ⟨b2, 0, none⟩)), (9, .pointer (some ⟨b3, 0, none⟩)), (2, .int .i64 low), (3, .int .i64 width), (10, .int .i64 i)]) (fun ⟨i, n⟩ W => -1 ≤ i ∧ i ≤ bts - 1 ∧ RN n (fpow a (pe low width bts (bts - 1 - i).toNat)) ∧ Bk W b1 65 (iv .i64 16 f) ∧ Bk W b2 65 (iv .i64 16 (fun _ => 0)) ∧ Bk W b3 65 (iv .i64 16 n) ∧ Keep [] w W) (fun ⟨i, n⟩ => (i + 1).toNat) ⟨bts - 1, hh1⟩ ⟨rfl, rfl, rfl, rfl, rfl, rfl, trivial⟩ (⟨by omega, by omega, (by rw [rF]; exact E1), hb1, hb2, hb4, hB⟩) ?_)))))))))
 rintro ⟨i, n⟩ w6 ⟨hi0, hi1, hN, hbx4, hbx8, hbx9, hB⟩
 refine a9 [(4, .pointer (some ⟨b1, 0, none⟩)), (8, .pointer (some ⟨b2, 0, none⟩)), (9, .pointer (some ⟨b3, 0, none⟩)), (2, .int .i64 low), (3, .int .i64 width), (10, .int .i64 i)] ⟨rfl, rfl, rfl, rfl, rfl, rfl, trivial⟩ (a5 (a5 (aZ (ogm rfl rfl (a7 (ii rfl rfl) rfl (a6 (bT rfl (fun hc1 => ?_) (fun hc1 => ?_))))))))
 ·
  refine af (a5 (ab (a5 (aZ (a7 (aa (cs' := iv .i64 16 n) bm bA rfl hbx9 rfl rfl) rfl (a7 (aa (cs' := iv .i64 16 n) bm bA rfl hbx9 rfl rfl) rfl (ad (a8 (vs := [_, _]) rfl (br _ _ _ _ hN hN _)) rfl ?_)))))))
  rintro _ w7 ⟨hh2, rfl, E2, k6⟩
  obtain ⟨hB, hbx4, hbx8, hbx9⟩ := dG k6 hB hbx4 hbx8 hbx9
  refine ae (bh (vs := iv .i64 16 hh2) bA rfl rfl rfl ai hbx9 rfl) ?_
  rintro _ w8 ⟨hb5, k7, z5⟩
  replace hbx4 := hbx4.keep k7 (nm ne_b1_b3)
  replace hbx8 := hbx8.keep k7 (nm ne_b2_b3)
  replace hB := hB.new k7 (nw ge_b3)
  clear z5
  refine a6 (a5 (aZ (ogm rfl rfl (ogm rfl rfl (a7 (ii rfl rfl) rfl (ogm rfl rfl (fa 24 false rfl (fun c1 hgc1 => dQ [(2, _)] (dD rfl rfl rfl hgc1) ⟨fE rfl, trivial⟩ (fun hw1 => bY rfl) rfl (dQ [(10, _)] (dD rfl rfl rfl hgc1) ⟨fE rfl, trivial⟩ (fun hw2 => bY rfl) rfl (dQ [(26, _)] (dD rfl rfl rfl hgc1) ⟨dJ rfl, trivial⟩ (fun hw3 => eb (by rw [aJ]; rfl) aS rfl) rfl (dQ [(25, _), (27, _)] (dD rfl rfl rfl hgc1) ⟨dJ rfl, dJ rfl, trivial⟩ (fun hw4 => g_shra rfl rfl (wrap_nn _)) rfl (dQ [(28, _)] (dD rfl rfl rfl hgc1) ⟨dJ rfl, trivial⟩ (fun hw5 => co rfl rfl) rfl (dQ [(29, _)] (dD rfl rfl rfl hgc1) ⟨dJ rfl, trivial⟩ (fun hw6 => fS rfl rfl) rfl (a7 (fk rfl rfl hgc1) rfl ?_))))))))))))))
  refine a6 (a9 [(4, _), (8, _), (9, _), (2, _), (3, _), (10, _), (31, _)] ⟨rfl, rfl, rfl, rfl, rfl, rfl, rfl, trivial⟩ (dK rfl (fun hc2 => ?_) (fun hc2 => ?_)))
  ·
   have hd1 := hc2
   try (simp only [Bool.and_eq_true, Bool.or_eq_true, decide_eq_true_eq, Bool.and_eq_false_iff, Bool.or_eq_false_iff, decide_eq_false_iff_not, Bool.not_eq_true', Bool.not_eq_false', Bool.not_eq_true, Bool.not_eq_false, ne_eq, Decidable.not_not] at hd1)
   refine aZ (a7 (aa (cs' := iv .i64 16 hh2) bm bA rfl hb5 rfl rfl) rfl (a7 (aa (cs' := iv .i64 16 f) bm bA rfl hbx4 rfl rfl) rfl (ad (a8 (vs := [_, _]) rfl (br _ _ _ _ E2 hf _)) rfl ?_)))
   rintro _ w9 ⟨hh3, rfl, E3, k8⟩
   obtain ⟨hB, hbx4, hbx8, hb5⟩ := dG k8 hB hbx4 hbx8 hb5
   refine ae (bh (vs := iv .i64 16 hh3) bA rfl rfl rfl ai hb5 rfl) ?_
   rintro _ w10 ⟨hb6, k9, z6⟩
   replace hbx4 := hbx4.keep k9 (nm ne_b1_b3)
   replace hbx8 := hbx8.keep k9 (nm ne_b2_b3)
   replace hB := hB.new k9 (nw ge_b3)
   clear z6
   refine a6 (bZ (aZ (ogm rfl rfl (a7 (cj rfl rfl (by omega)) rfl (oga rfl rfl (a6 (bM (Γ := Int × (Nat → Int)) ⟨i - 1, hh3⟩ ⟨rfl, rfl, rfl, rfl, rfl, rfl, trivial⟩ (by (try dsimp only); omega) (⟨by omega, by omega, (by rw [← pe_T (by omega) hi1 hc2]; exact E3), hbx4, hbx8, hb6, hB⟩))))))))
  ·
   have hd2 := hc2
   try (simp only [Bool.and_eq_true, Bool.or_eq_true, decide_eq_true_eq, Bool.and_eq_false_iff, Bool.or_eq_false_iff, decide_eq_false_iff_not, Bool.not_eq_true', Bool.not_eq_false', Bool.not_eq_true, Bool.not_eq_false, ne_eq, Decidable.not_not] at hd2)
   refine af (bZ (aZ (ogm rfl rfl (a7 (cj rfl rfl (by omega)) rfl (oga rfl rfl (a6 (bM (Γ := Int × (Nat → Int)) ⟨i - 1, hh2⟩ ⟨rfl, rfl, rfl, rfl, rfl, rfl, trivial⟩ (by (try dsimp only); omega) (⟨by omega, by omega, (by rw [← pe_F (by omega) hi1 hc2]; exact E2), hbx4, hbx8, hb5, hB⟩))))))))
 ·
  refine bF rfl (a5 (aZ (a7 (aa (cs' := iv .i64 16 n) bm bA rfl hbx9 rfl rfl) rfl (ae (bh (vs := iv .i64 16 n) bA rfl rfl rfl ai hbx8 rfl) ?_))))
  rintro _ w11 ⟨hb7, k10, z7⟩
  replace hB := hB.new k10 (nw ge_b2)
  clear z7
  refine a6 (ba hfin Tryz.results99 rfl (ak bm bA hb7 rfl)  ?_)
  exact ⟨n, rfl, (by rw [← pe_end (a := a) hi0 ‹_›]; exact hN), hB⟩
theorem ei (f : Nat → Int) (a : Fp) (hf : RN f a) (w : World) : Rets Tryz.prog 80 [.agg (iv .i64 16 f).toArray] w (fun v w' => ∃ r, v = .agg (iv .i64 16 r).toArray ∧ RN r (inv a) ∧ Keep [] w w') := by
 have hB : Keep [] w w := Keep.refl _ _
 refine ac Tryz.func80 rfl (by decide) Tryz.ntmps80 rfl (fun fin _ hfin => a5 (aZ (ad (bc (cs := iv .i64 16 f) rfl rfl) rfl ?_)))
 rintro _ w1 ⟨b1, rfl, eb1, hb1, k1, z1⟩
 replace hB := hB.trans k1
 clear eb1 z1
 refine ad (aj bA) rfl ?_
 rintro _ w2 ⟨b2, rfl, eb2, hb2, k2, z2⟩
 have ge_b2 : w.heap.size ≤ b2 := by have := hB.size; omega
 obtain ⟨hB, hb1⟩ := bN k2 hB hb1
 clear eb2 z2
 replace hb2 : Bk w2 b2 65 (iv .i64 16 (fun _ => 0)) := by rw [iv, bE]; exact hb2
 refine a6 (a5 (aZ (a7 (aa (cs' := iv .i64 16 f) bm bA rfl hb1 rfl rfl) rfl (ad (a8 (vs := [_, _, _, _]) rfl (ga _ _ 255 11 5 hf (by decide) _)) rfl ?_))))
 rintro _ w3 ⟨hh1, rfl, E1, k3⟩
 obtain ⟨hB, hb2⟩ := bN k3 hB hb2
 rw [pe_inv] at E1
 replace E1 : RN hh1 (inv a) := E1
 refine ae (bh (vs := iv .i64 16 hh1) bA rfl rfl rfl ai hb2 rfl) ?_
 rintro _ w4 ⟨hb3, k4, z3⟩
 replace hB := hB.new k4 (nw ge_b2)
 clear z3
 refine a6 (ba hfin Tryz.results80 rfl (ak bm bA hb3 rfl)  ?_)
 exact ⟨hh1, rfl, E1, hB⟩
theorem lm (w : World) : Rets Tryz.prog 116 [] w (fun v w' => ∃ r, v = .agg (iv .i64 16 r).toArray ∧ RN r (fpow 2 14474011154664524427946373126085988481658748083205070504932198000989141204987) ∧ Keep [] w w') := by
 have hB : Keep [] w w := Keep.refl _ _
 refine ac Tryz.func116 rfl (by decide) Tryz.ntmps116 rfl (fun fin _ hfin => a5 (aZ (ad (aj bA) rfl ?_)))
 rintro _ w1 ⟨b1, rfl, eb1, hb1, k1, z1⟩
 have ge_b1 : w.heap.size ≤ b1 := by have := hB.size; omega
 replace hB := hB.trans k1
 clear eb1 z1
 replace hb1 : Bk w1 b1 65 (iv .i64 16 (fun _ => 0)) := by rw [iv, bE]; exact hb1
 refine a6 (a5 (aZ (ad (a8 (vs := [_]) rfl (cx 2 (by decide) _)) rfl ?_)))
 rintro _ w2 ⟨hh1, rfl, E1, C1, k2⟩
 obtain ⟨hB, hb1⟩ := bN k2 hB hb1
 replace E1 : RN hh1 2 := fp_two ▸ E1
 refine ad (a8 (vs := [_, _, _, _]) rfl (ga _ _ 253 3 3 E1 (by decide) _)) rfl ?_
 rintro _ w3 ⟨hh2, rfl, E2, k3⟩
 obtain ⟨hB, hb1⟩ := bN k3 hB hb1
 rw [pe_m1] at E2
 replace E2 : RN hh2 (fpow 2 14474011154664524427946373126085988481658748083205070504932198000989141204987) := E2
 refine ae (bh (vs := iv .i64 16 hh2) bA rfl rfl rfl ai hb1 rfl) ?_
 rintro _ w4 ⟨hb2, k4, z2⟩
 replace hB := hB.new k4 (nw ge_b1)
 clear z2
 refine a6 (ba hfin Tryz.results116 rfl (ak bm bA hb2 rfl)  ?_)
 exact ⟨hh2, rfl, E2, hB⟩
theorem qr (f g : Nat → Int) (a b : Fp) (hf : RN f a) (hg : RN g b) (w : World) : Rets Tryz.prog 100 [.agg (iv .i64 16 f).toArray, .agg (iv .i64 16 g).toArray] w (fun v w' => ∃ r, v = .agg (iv .i64 16 r).toArray ∧ RN r (if a * a = b then a else a * fpow 2 14474011154664524427946373126085988481658748083205070504932198000989141204987) ∧ Keep [] w w') := by
 have hB : Keep [] w w := Keep.refl _ _
 refine ac Tryz.func100 rfl (by decide) Tryz.ntmps100 rfl (fun fin _ hfin => a5 (aZ (ad (bc (cs := iv .i64 16 f) rfl rfl) rfl ?_)))
 rintro _ w1 ⟨b1, rfl, eb1, hb1, k1, z1⟩
 replace hB := hB.trans k1
 clear eb1 z1
 refine ad (bc (cs := iv .i64 16 g) rfl rfl) rfl ?_
 rintro _ w2 ⟨b2, rfl, eb2, hb2, k2, z2⟩
 obtain ⟨hB, hb1⟩ := bN k2 hB hb1
 clear eb2 z2
 refine ad (aj bA) rfl ?_
 rintro _ w3 ⟨b3, rfl, eb3, hb3, k3, z3⟩
 have ge_b3 : w.heap.size ≤ b3 := by have := hB.size; omega
 have ne_b1_b3 : b1 ≠ b3 := by have := hb1.lt; omega
 obtain ⟨hB, hb1, hb2⟩ := ca k3 hB hb1 hb2
 clear eb3 z3
 replace hb3 : Bk w3 b3 65 (iv .i64 16 (fun _ => 0)) := by rw [iv, bE]; exact hb3
 refine a6 (a5 (a5 (bf 5 [0, 1, 3, 2, 4] [2, 4] [] mixed [(2, _), (3, _), (4, _)] ⟨rfl, rfl, rfl, trivial⟩ (by decide +kernel) rfl (fun w4 k4 => ?_))))
 obtain ⟨hB, hb1, hb2, hb3⟩ := dG k4 hB hb1 hb2 hb3
 refine am 2 rfl rfl rfl rfl (fun W' kk => aa (cs' := iv .i64 16 f) bm bA rfl (Bk.s8 hb1 kk) rfl rfl) (am 2 rfl rfl rfl rfl (fun W' kk => aa (cs' := iv .i64 16 f) bm bA rfl (Bk.s8 hb1 kk) rfl rfl) (am 3 rfl rfl rfl rfl (fun W' kk => aa (cs' := iv .i64 16 g) bm bA rfl (Bk.s8 hb2 kk) rfl rfl) (bq [(5, _), (6, _)] rfl rfl ⟨rfl, rfl, trivial⟩ rfl (a8 (vs := [_, _]) rfl (br _ _ _ _ hf hf _)) ?_)))
 rintro _ w5 ⟨hh1, rfl, E1, k5⟩
 refine ⟨k5, ?_⟩
 obtain ⟨hB, hb1, hb3⟩ := ca k5 hB hb1 hb3
 refine bq [(7, _), (8, _)] rfl rfl ⟨rfl, rfl, trivial⟩ rfl (a8 (vs := [_, _]) rfl (fJ _ _ _ _ E1 hg _)) ?_
 rintro _ w6 ⟨rfl, k6⟩
 refine ⟨k6, ?_⟩
 obtain ⟨hB, hb1, hb3⟩ := ca k6 hB hb1 hb3
 refine bz (a6 (bT rfl (fun hc1 => ?_) (fun hc1 => ?_)))
 ·
  refine a5 (aZ (a7 (aa (cs' := iv .i64 16 f) bm bA rfl hb1 rfl rfl) rfl (ae (bh (vs := iv .i64 16 f) bA rfl rfl rfl ai hb3 rfl) ?_)))
  rintro _ w7 ⟨hb4, k7, z4⟩
  replace hb1 := hb1.keep k7 (nm ne_b1_b3)
  replace hB := hB.new k7 (nw ge_b3)
  clear z4
  refine a6 (ba hfin Tryz.results100 rfl (ak bm bA hb4 rfl)  ?_)
  exact ⟨f, rfl, (by rw [if_pos hc1]; exact hf), hB⟩
 ·
  refine af (a5 (bf 2 [0, 1] [1] [] mixed [(2, _), (4, _)] ⟨rfl, rfl, trivial⟩ (by decide +kernel) rfl (fun w8 k8 => ?_)))
  obtain ⟨hB, hb1, hb3⟩ := ca k8 hB hb1 hb3
  refine am 2 rfl rfl rfl rfl (fun W' kk => aa (cs' := iv .i64 16 f) bm bA rfl (Bk.s8 hb1 kk) rfl rfl) (bq [] rfl rfl trivial rfl (a8 (vs := []) rfl (lm _)) ?_)
  rintro _ w9 ⟨hh2, rfl, E2, k9⟩
  refine ⟨k9, ?_⟩
  obtain ⟨hB, hb3⟩ := bN k9 hB hb3
  refine bz (ad (a8 (vs := [_, _]) rfl (br _ _ _ _ hf E2 _)) rfl ?_)
  rintro _ w10 ⟨hh3, rfl, E3, k10⟩
  obtain ⟨hB, hb3⟩ := bN k10 hB hb3
  refine ae (bh (vs := iv .i64 16 hh3) bA rfl rfl rfl ai hb3 rfl) ?_
  rintro _ w11 ⟨hb5, k11, z5⟩
  replace hB := hB.new k11 (nw ge_b3)
  clear z5
  refine a6 (ba hfin Tryz.results100 rfl (ak bm bA hb5 rfl)  ?_)
  exact ⟨hh3, rfl, (by rw [if_neg hc1]; exact E3), hB⟩
theorem m6 {x : Fp} {z : Int} {b : Bool} (hz : Eqn z (gb (fpB x) 0 % 2)) (h : decide (z = 1) = b) : decide (bits .and .u8 (gb (fpB x) 0) 1 = 1) = b := by
 have g := cG (fpB x) 0
 rw [cL (k := .u8) (a := 0) (b := 255) 1 (c := 1) (m := 2) g rfl rfl rfl rfl rfl rfl]
 unfold Eqn at hz; rw [← hz]; exact h
theorem ms (f g : Nat → Int) (a b : Fp) (hf : RN f a) (hg : RN g b) (w : World) : Rets Tryz.prog 75 [.agg (iv .i64 16 f).toArray, .agg (iv .i64 16 g).toArray] w (fun v w' => ∃ r, v = .tuple #[.agg (iv .i64 16 r).toArray, .bool (rootOk a b)] ∧ RN r (rootF a b) ∧ Keep [] w w') := by
  have hB : Keep [] w w := Keep.refl _ _
  refine ac Tryz.func75 rfl (by decide) Tryz.ntmps75 rfl (fun fin _ hfin => a5 (aZ (ad (bc (cs := iv .i64 16 f) rfl rfl) rfl ?_)))
  rintro _ w1 ⟨b1, rfl, eb1, hb1, k1, z1⟩
  replace hB := hB.trans k1
  clear eb1 z1
  refine ad (bc (cs := iv .i64 16 g) rfl rfl) rfl ?_
  rintro _ w2 ⟨b2, rfl, eb2, hb2, k2, z2⟩
  obtain ⟨hB, hb1⟩ := bN k2 hB hb1
  clear eb2 z2
  refine ad (aj bA) rfl ?_
  rintro _ w3 ⟨b3, rfl, eb3, hb3, k3, z3⟩
  have ge_b3 : w.heap.size ≤ b3 := by have := hB.size; omega
  obtain ⟨hB, hb1, hb2⟩ := ca k3 hB hb1 hb2
  clear eb3 z3
  replace hb3 : Bk w3 b3 65 (iv .i64 16 (fun _ => 0)) := by rw [iv, bE]; exact hb3
  refine oga rfl rfl (a6 (a5 ?_))
  have gs1 := hB.size
  have lt1 := hb1.lt
  have lt2 := hb2.lt
  have lt3 := hb3.lt
  refine bW 5 [0, 1, 2, 3] [2, 3] [] [(4, 65, List.replicate 16 (.int .i64 0))] mixed [(2, _), (3, _), (4, _)] ⟨rfl, rfl, rfl, trivial⟩ (by decide +kernel) (by decide) (by decide) ?_ (fun x hx => by cases hx) rfl (fun w4 k4 => ?_)
  · simp only [List.forall_mem_cons]; exact ⟨⟨_, _, _, _, _, _, rfl, bA⟩, fun q hq => by cases hq⟩
  obtain ⟨hB, hb1, hb2, hb3⟩ := dG k4 hB hb1 hb2 hb3
  refine al 2 rfl rfl rfl rfl (fun W' kk => aa (cs' := iv .i64 16 f) bm bA rfl (Bk.s8 hb1 kk) rfl rfl) (al 3 rfl rfl rfl rfl (fun W' kk => aa (cs' := iv .i64 16 g) bm bA rfl (Bk.s8 hb2 kk) rfl rfl) (bo [(9, _)] rfl rfl ⟨rfl, trivial⟩ rfl (fun w6 k6 => ?_)))
  obtain ⟨hB, hb1, hb2, hb3⟩ := dG k6 hB hb1 hb2 hb3
  refine (a8 (vs := [_]) rfl (ei _ _ hg _)).mono ?_
  rintro _ w5 ⟨hh1, rfl, E1, k5⟩
  refine ⟨k5, nox, ?_⟩
  obtain ⟨hB, hb1, hb2, hb3⟩ := dG k5 hB hb1 hb2 hb3
  refine bo [(8, _), (10, _)] rfl rfl ⟨rfl, rfl, trivial⟩ rfl (fun w8 k8 => ?_)
  obtain ⟨hB, hb1, hb2, hb3⟩ := dG k8 hB hb1 hb2 hb3
  refine (a8 (vs := [_, _]) rfl (br _ _ _ _ hf E1 _)).mono ?_
  rintro _ w7 ⟨hh2, rfl, E2, k7⟩
  refine ⟨k7, nox, ?_⟩
  obtain ⟨hB, hb1, hb2, hb3⟩ := dG k7 hB hb1 hb2 hb3
  refine cC (fun w9 k9 => ?_)
  obtain ⟨hB, hb1, hb2, hb3⟩ := dG k9 hB hb1 hb2 hb3
  intro b4 eb4 lb1 hb4 ds1 sp1
  have ge_b4 : w.heap.size ≤ b4 := Nat.le_trans gs1 eb4
  have ne_b1_b4 : b1 ≠ b4 := Nat.ne_of_lt (Nat.lt_of_lt_of_le lt1 eb4)
  have ne_b2_b4 : b2 ≠ b4 := Nat.ne_of_lt (Nat.lt_of_lt_of_le lt2 eb4)
  have ne_b3_b4 : b3 ≠ b4 := Nat.ne_of_lt (Nat.lt_of_lt_of_le lt3 eb4)
  replace hb4 : Bk w9 b4 65 (iv .i64 16 (fun _ => 0)) := by rw [iv, bE]; exact hb4
  refine bX (ae (bh (vs := iv .i64 16 hh2) bA rfl rfl rfl ai hb4 rfl) ?_)
  rintro _ w10 ⟨hb5, k10, z4⟩
  replace hb1 := hb1.keep k10 (nm ne_b1_b4)
  replace hb2 := hb2.keep k10 (nm ne_b2_b4)
  replace hb3 := hb3.keep k10 (nm ne_b3_b4)
  replace hB := hB.new k10 (nw ge_b4)
  clear z4
  refine a6 (a5 (aZ (a7 (aa (cs' := iv .i64 16 hh2) bm bA rfl hb5 rfl rfl) rfl (ad (a8 (vs := [_, _, _, _]) rfl (ga _ _ 252 14 4 E2 (by decide) _)) rfl ?_))))
  rintro _ w11 ⟨hh3, rfl, E3, k11⟩
  obtain ⟨hB, hb1, hb2, hb3, hb5⟩ := dw k11 hB hb1 hb2 hb3 hb5
  rw [pe_root] at E3
  replace E3 : RN hh3 (fpow (a * (inv b)) 7237005577332262213973186563042994240829374041602535252466099000494570602494) := E3
  refine ad (aj bA) rfl ?_
  rintro _ w12 ⟨b5, rfl, eb5, hb6, k12, z5⟩
  have ge_b5 : w.heap.size ≤ b5 := by have := hB.size; omega
  have ne_b1_b5 : b1 ≠ b5 := by have := hb1.lt; omega
  have ne_b2_b5 : b2 ≠ b5 := by have := hb2.lt; omega
  have ne_b3_b5 : b3 ≠ b5 := by have := hb3.lt; omega
  have ne_b4_b5 : b4 ≠ b5 := by have := hb5.lt; omega
  obtain ⟨hB, hb1, hb2, hb3, hb5⟩ := dw k12 hB hb1 hb2 hb3 hb5
  clear eb5 z5
  replace hb6 : Bk w12 b5 65 (iv .i64 16 (fun _ => 0)) := by rw [iv, bE]; exact hb6
  refine ae (bh (vs := iv .i64 16 hh3) bA rfl rfl rfl ai hb6 rfl) ?_
  rintro _ w13 ⟨hb7, k13, z6⟩
  replace hb1 := hb1.keep k13 (nm ne_b1_b5)
  replace hb2 := hb2.keep k13 (nm ne_b2_b5)
  replace hb3 := hb3.keep k13 (nm ne_b3_b5)
  replace hb5 := hb5.keep k13 (nm ne_b4_b5)
  replace hB := hB.new k13 (nw ge_b5)
  clear z6
  refine a6 (a5 (aZ (a7 (aa (cs' := iv .i64 16 hh3) bm bA rfl hb7 rfl rfl) rfl (a7 (aa (cs' := iv .i64 16 hh2) bm bA rfl hb5 rfl rfl) rfl (ad (a8 (vs := [_, _]) rfl (qr _ _ _ _ E3 E2 _)) rfl ?_)))))
  rintro _ w14 ⟨hh4, rfl, E4, k14⟩
  obtain ⟨hB, hb1, hb2, hb3, hb5, hb7⟩ := dq k14 hB hb1 hb2 hb3 hb5 hb7
  replace E4 : RN hh4 (cw (a * (inv b))) := E4
  refine ae (bh (vs := iv .i64 16 hh4) bA rfl rfl rfl ai hb7 rfl) ?_
  rintro _ w15 ⟨hb8, k15, z7⟩
  replace hb1 := hb1.keep k15 (nm ne_b1_b5)
  replace hb2 := hb2.keep k15 (nm ne_b2_b5)
  replace hb3 := hb3.keep k15 (nm ne_b3_b5)
  replace hb5 := hb5.keep k15 (nm ne_b4_b5)
  replace hB := hB.new k15 (nw ge_b5)
  clear z7
  refine a6 (a5 (a5 (bW 17 [0, 1, 3, 2, 4, 5, 6, 7, 8, 9, 10, 11, 12, 13, 14, 15, 16] [2, 4, 8, 9, 12, 13] [] [] mixed [(7, _), (6, _), (3, _), (2, _), (4, _)] ⟨rfl, rfl, rfl, rfl, rfl, trivial⟩ (by decide +kernel) (by decide) (by decide) ?_ (fun x hx => by cases hx) rfl (fun w16 k16 => ?_))))
  · intro q hq; cases hq
  obtain ⟨hB, hb1, hb2, hb3, hb5, hb8⟩ := dq k16 hB hb1 hb2 hb3 hb5 hb8
  refine al 7 rfl rfl rfl rfl (fun W' kk => aa (cs' := iv .i64 16 hh4) bm bA rfl (Bk.s8 hb8 kk) rfl rfl) (al 7 rfl rfl rfl rfl (fun W' kk => aa (cs' := iv .i64 16 hh4) bm bA rfl (Bk.s8 hb8 kk) rfl rfl) (al 6 rfl rfl rfl rfl (fun W' kk => aa (cs' := iv .i64 16 hh2) bm bA rfl (Bk.s8 hb5 kk) rfl rfl) (bo [(17, _), (18, _)] rfl rfl ⟨rfl, rfl, trivial⟩ rfl (fun w18 k18 => ?_))))
  obtain ⟨hB, hb1, hb2, hb3, hb8⟩ := dw k18 hB hb1 hb2 hb3 hb8
  refine (a8 (vs := [_, _]) rfl (br _ _ _ _ E4 E4 _)).mono ?_
  rintro _ w17 ⟨hh5, rfl, E5, k17⟩
  refine ⟨k17, nox, ?_⟩
  obtain ⟨hB, hb1, hb2, hb3, hb8⟩ := dw k17 hB hb1 hb2 hb3 hb8
  refine bo [(19, _), (20, _)] rfl rfl ⟨rfl, rfl, trivial⟩ rfl (fun w20 k20 => ?_)
  obtain ⟨hB, hb1, hb2, hb3, hb8⟩ := dw k20 hB hb1 hb2 hb3 hb8
  refine (a8 (vs := [_, _]) rfl (fJ _ _ _ _ E5 E2 _)).mono ?_
  rintro _ w19 ⟨rfl, k19⟩
  refine ⟨k19, nox, ?_⟩
  obtain ⟨hB, hb1, hb2, hb3, hb8⟩ := dw k19 hB hb1 hb2 hb3 hb8
  refine al 21 rfl rfl rfl rfl (fun W' kk => et rfl) (bu 22 rfl rfl rfl rfl rfl (km 23 false rfl (fun c1 hgc1 => eZ [(3, _), (23, _)] [(3, _)] rfl rfl ⟨rfl, rfl, trivial⟩ rfl (dD rfl rfl rfl hgc1) ⟨fE rfl, trivial⟩ (fun hw1 => (fun W' kk => aa (cs' := iv .i64 16 g) bm bA rfl (Bk.s8 hb2 kk) rfl rfl)) (fF (V := .agg (iv .i64 16 (fun _ => 0)).toArray) [(23, _)] [] rfl rfl ⟨rfl, trivial⟩ rfl (dD rfl rfl rfl hgc1) trivial rfl (fun W1 kk hw2 => (a8 (vs := [_]) rfl (eN _)).mono (by rintro _ w21 ⟨rfl, k21⟩; exact ⟨rfl, k21⟩)) (fun w22 k22 => ?_)))))
  obtain ⟨hB, hb1, hb3, hb8⟩ := dG k22 hB hb1 hb3 hb8
  refine fF (V := .bool (decide (b = 0))) [(23, _), (24, _), (25, _)] [(24, _), (25, _)] rfl rfl ⟨rfl, rfl, rfl, trivial⟩ rfl (dD rfl rfl rfl hgc1) ⟨dJ rfl, dJ rfl, trivial⟩ rfl (fun W1 kk hw3 => (a8 (vs := [_, _]) rfl (fJ _ _ _ _ hg gL _)).mono (by rintro _ w23 ⟨rfl, k23⟩; exact ⟨rfl, k23⟩)) (fun w24 k24 => ?_)
  obtain ⟨hB, hb1, hb3, hb8⟩ := dG k24 hB hb1 hb3 hb8
  refine eZ [(23, _), (26, _)] [(26, _)] rfl rfl ⟨rfl, rfl, trivial⟩ rfl (dD rfl rfl rfl hgc1) ⟨dJ rfl, trivial⟩ (fun hw4 => (fun W' kk => bY rfl)) (ip 27 true rfl (fun c2 hgc2 => eZ [(2, _), (27, _)] [(2, _)] rfl rfl ⟨rfl, rfl, trivial⟩ rfl (gW rfl rfl rfl hgc2) ⟨fE rfl, trivial⟩ (fun hw5 => (fun W' kk => aa (cs' := iv .i64 16 f) bm bA rfl (Bk.s8 hb1 kk) rfl rfl)) (fF (V := .agg (iv .i64 16 (fun _ => 0)).toArray) [(27, _)] [] rfl rfl ⟨rfl, trivial⟩ rfl (gW rfl rfl rfl hgc2) trivial rfl (fun W1 kk hw6 => (a8 (vs := [_]) rfl (eN _)).mono (by rintro _ w25 ⟨rfl, k25⟩; exact ⟨rfl, k25⟩)) (fun w26 k26 => ?_))))
  obtain ⟨hB, hb3, hb8⟩ := ca k26 hB hb3 hb8
  refine fF (V := .bool (decide (a = 0))) [(27, _), (28, _), (29, _)] [(28, _), (29, _)] rfl rfl ⟨rfl, rfl, rfl, trivial⟩ rfl (gW rfl rfl rfl hgc2) ⟨dJ rfl, dJ rfl, trivial⟩ rfl (fun W1 kk hw7 => (a8 (vs := [_, _]) rfl (fJ _ _ _ _ hf gL _)).mono (by rintro _ w27 ⟨rfl, k27⟩; exact ⟨rfl, k27⟩)) (fun w28 k28 => ?_)
  obtain ⟨hB, hb3, hb8⟩ := ca k28 hB hb3 hb8
  refine eZ [(27, _), (30, _)] [(30, _)] rfl rfl ⟨rfl, rfl, trivial⟩ rfl (gW rfl rfl rfl hgc2) ⟨dJ rfl, trivial⟩ (fun hw8 => (fun W' kk => et rfl)) (io (dj := 0) [(23, _), (27, _), (31, _)] rfl rfl ⟨rfl, rfl, rfl, trivial⟩ rfl (dD rfl rfl rfl hgc1) (dJ rfl) rfl hgc2 rfl (cn 23 32 rfl rfl rfl rfl rfl (fun W' kk => fk rfl rfl hgc1) (cC (fun w29 k29 => ?_))))
  obtain ⟨hB, hb3, hb8⟩ := ca k29 hB hb3 hb8
  refine bX (a6 (a9 [(7, _), (4, _), (33, _)] ⟨rfl, rfl, rfl, trivial⟩ (dK rfl (fun hc1 => ?_) (fun hc1 => ?_))))
  · -- yes
    have hd1 := hc1
    try (simp only [Bool.and_eq_true, Bool.or_eq_true, decide_eq_true_eq, Bool.and_eq_false_iff, Bool.or_eq_false_iff, decide_eq_false_iff_not, Bool.not_eq_true', Bool.not_eq_false', Bool.not_eq_true, Bool.not_eq_false, ne_eq, Decidable.not_not] at hd1)
    refine a5 (aZ (ad (a8 (vs := [_]) rfl (eN _)) rfl ?_))
    rintro _ w30 ⟨rfl, k30⟩
    obtain ⟨hB, hb3, hb8⟩ := ca k30 hB hb3 hb8
    refine ae (bh (vs := iv .i64 16 (fun _ => 0)) bA rfl rfl rfl ai hb3 rfl) ?_
    rintro _ w31 ⟨hb9, k31, z8⟩
    replace hb8 := hb8.keep k31 (nm (Ne.symm ne_b3_b5))
    replace hB := hB.new k31 (nw ge_b3)
    clear z8
    refine oga rfl rfl (a6 (cS hfin Tryz.results75 rfl (ak bm bA hb9 rfl) rfl ?_))
    exact ⟨(fun _ => 0), by rw [gK (rfl : cw (a * inv b) = _) hc1], by rw [kX (gK (rfl : cw (a * inv b) = _) hc1)]; exact gL, hB⟩
  · -- no
    have hd2 := hc1
    try (simp only [Bool.and_eq_true, Bool.or_eq_true, decide_eq_true_eq, Bool.and_eq_false_iff, Bool.or_eq_false_iff, decide_eq_false_iff_not, Bool.not_eq_true', Bool.not_eq_false', Bool.not_eq_true, Bool.not_eq_false, ne_eq, Decidable.not_not] at hd2)
    refine af (a5 (a5 (aZ (a7 (aa (cs' := iv .i64 16 hh4) bm bA rfl hb8 rfl rfl) rfl (ad (a8 (vs := [_]) rfl (eG _ _ E4 _)) rfl ?_)))))
    rintro v1 w32 ⟨o1, k32⟩
    obtain ⟨hB, hb3, hb8⟩ := ca k32 hB hb3 hb8
    refine a7 (bk aA cg rfl o1.rd rfl (by rw [bJ]; decide)) rfl (a7 (dT iI rfl o1.rd (by rw [bJ]; decide)) rfl (an (e' := (gb (fpB (cw (a * (inv b)))) 0) % 2) (lo := 0) (hi := 1) (fQ rfl rfl ⟨(cG _ _).1, by decide⟩) (rfl) (In.wk (bb _ (by decide)) rfl) rfl (fun z9 h1 r1 => a7 (fS rfl rfl) rfl (a6 (bT rfl (fun hc2 => ?_) (fun hc2 => ?_))))))
    · -- yes
      refine bf 2 [1, 0] [0] [] mixed [(7, _), (4, _)] ⟨rfl, rfl, trivial⟩ (by decide +kernel) rfl (fun w33 k33 => ?_)
      obtain ⟨hB, hb3, hb8⟩ := ca k33 hB hb3 hb8
      refine am 7 rfl rfl rfl rfl (fun W' kk => aa (cs' := iv .i64 16 hh4) bm bA rfl (Bk.s8 hb8 kk) rfl rfl) (bq [] rfl rfl trivial rfl (a8 (vs := [_]) rfl (eN _)) ?_)
      rintro _ w34 ⟨rfl, k34⟩
      refine ⟨k34, ?_⟩
      obtain ⟨hB, hb3, hb8⟩ := ca k34 hB hb3 hb8
      refine bz (ad (a8 (vs := [_, _]) rfl (eF _ _ _ _ gL E4 _)) rfl ?_)
      rintro _ w35 ⟨hh6, rfl, E6, k35⟩
      obtain ⟨hB, hb3, hb8⟩ := ca k35 hB hb3 hb8
      refine ae (bh (vs := iv .i64 16 hh6) bA rfl rfl rfl ai hb8 rfl) ?_
      rintro _ w36 ⟨hb10, k36, z10⟩
      replace hb3 := hb3.keep k36 (nm ne_b3_b5)
      replace hB := hB.new k36 (nw ge_b5)
      clear z10
      refine a6 (a5 (aZ (a7 (aa (cs' := iv .i64 16 hh6) bm bA rfl hb10 rfl rfl) rfl (ae (bh (vs := iv .i64 16 hh6) bA rfl rfl rfl ai hb3 rfl) ?_))))
      rintro _ w37 ⟨hb11, k37, z11⟩
      replace hB := hB.new k37 (nw ge_b3)
      clear z11
      refine oga rfl rfl (a6 (cS hfin Tryz.results75 rfl (ak bm bA hb11 rfl) rfl ?_))
      exact ⟨hh6, by rw [eD (rfl : cw (a * inv b) = _) hc1], by rw [iR (eD (rfl : cw (a * inv b) = _) hc1) (rfl : cw (a * inv b) = _) (of_decide_eq_true (m6 h1 (decide_eq_true hc2)))]; exact E6, hB⟩
    · -- no
      refine af (a5 (aZ (a7 (aa (cs' := iv .i64 16 hh4) bm bA rfl hb8 rfl rfl) rfl (ae (bh (vs := iv .i64 16 hh4) bA rfl rfl rfl ai hb3 rfl) ?_))))
      rintro _ w38 ⟨hb12, k38, z12⟩
      replace hB := hB.new k38 (nw ge_b3)
      clear z12
      refine oga rfl rfl (a6 (cS hfin Tryz.results75 rfl (ak bm bA hb12 rfl) rfl ?_))
      exact ⟨hh4, by rw [eD (rfl : cw (a * inv b) = _) hc1], by rw [gc (eD (rfl : cw (a * inv b) = _) hc1) (rfl : cw (a * inv b) = _) (of_decide_eq_false (m6 h1 (decide_eq_false hc2)))]; exact E4, hB⟩
end Go.Proofs.YtllmbkmghmmhfaaGreatDoor.W
namespace Go.Proofs.YtllmbkmghmmhfaaGreatDoor.W
open Go Go.Eng Go.Byt Go.Fld Go.Ed
def Rep (X Y Z T : Fp) (a : Pt) : Prop := Z ≠ 0 ∧ X = a.1 * Z ∧ Y = a.2 * Z ∧ T = a.1 * a.2 * Z
theorem lr {a b : Pt} {X1 Y1 Z1 T1 X2 Y2 Z2 T2 : Fp} (ha : OnP a) (hb : OnP b) (h1 : Rep X1 Y1 Z1 T1 a) (h2 : Rep X2 Y2 Z2 T2 b) :
   Rep (((X1 + Y1) * (X2 + Y2) - X1 * X2 - Y1 * Y2) * (Z1 * Z2 - T1 * T2 * d)) ((Z1 * Z2 + T1 * T2 * d) * (Y1 * Y2 + X1 * X2)) ((Z1 * Z2 - T1 * T2 * d) * (Z1 * Z2 + T1 * T2 * d)) (((X1 + Y1) * (X2 + Y2) - X1 * X2 - Y1 * Y2) * (Y1 * Y2 + X1 * X2)) (padd a b) := by
 obtain ⟨n1, rfl, rfl, rfl⟩ := h1
 obtain ⟨n2, rfl, rfl, rfl⟩ := h2
 have f1 := rs ha hb
 have f2 := rr ha hb
 obtain ⟨x1, y1⟩ := a
 obtain ⟨x2, y2⟩ := b
 simp only at f1 f2 ⊢
 have hF : Z1 * Z2 - x1 * y1 * Z1 * (x2 * y2 * Z2) * d = (Z1 * Z2) * (1 - d * x1 * x2 * y1 * y2) := by clear f1 f2; generalize d = e; grind -lia -linarith
 have hG : Z1 * Z2 + x1 * y1 * Z1 * (x2 * y2 * Z2) * d = (Z1 * Z2) * (1 + d * x1 * x2 * y1 * y2) := by clear f1 f2; generalize d = e; grind -lia -linarith
 have hE : (x1 * Z1 + y1 * Z1) * (x2 * Z2 + y2 * Z2) - x1 * Z1 * (x2 * Z2) - y1 * Z1 * (y2 * Z2) = (Z1 * Z2) * (x1 * y2 + y1 * x2) := by clear f1 f2; grind -lia -linarith
 have hH : y1 * Z1 * (y2 * Z2) + x1 * Z1 * (x2 * Z2) = (Z1 * Z2) * (y1 * y2 + x1 * x2) := by clear f1 f2; grind -lia -linarith
 obtain ⟨c1, c2, c3⟩ := qy (ce f1) (ce f2) hE hG hF hH rfl rfl rfl rfl rfl rfl
 refine ⟨?_, c1, c2, c3⟩
 rw [hF, hG]
 exact dW (dW (dW n1 n2) f2) (dW (dW n1 n2) f1)
theorem rep_of (x y : Fp) : Rep x y 1 (x * y) (x, y) := by
 refine ⟨ko, ?_, ?_, ?_⟩ <;> (show _ = _ * (1 : Fp); grind -lia -linarith)
theorem rep_x {a : Pt} {X Y Z T : Fp} (h : Rep X Y Z T a) : X * inv Z = a.1 ∧ Y * inv Z = a.2 := by
 obtain ⟨n, rfl, rfl, rfl⟩ := h
 exact ⟨eP n, eP n⟩
def RPt (p : Nat → Int) (a : Pt) : Prop := ∃ X Y Z T, Rep X Y Z T a ∧ RN (atN p 0) X ∧ RN (atN p 16) Y ∧ RN (atN p 32) Z ∧ RN (atN p 48) T
theorem gt {f g : Nat → Int} {a : Fp} (h : RN f a) (e : ∀ j, j < 16 → g j = f j) : RN g a := by
 refine ⟨by rw [e 0 (by decide)]; exact h.1, fun i h1 h2 => by rw [e i h2]; exact h.2.1 i h1 h2, ?_⟩
 rw [jC (n := 16) e]; exact h.2.2
def jn (f g h k : Nat → Int) : Nat → Int := fun i => bif Nat.blt i 16 then f i else bif Nat.blt i 32 then g (i - 16) else bif Nat.blt i 48 then h (i - 32) else k (i - 48)
theorem sR {a b : Nat} (h : a < b) : Nat.blt a b = true := Nat.ble_eq_true_of_le h
theorem kO {a b : Nat} (h : b ≤ a) : Nat.blt a b = false := by rw [← Bool.not_eq_true]; unfold Nat.blt; rw [Nat.ble_eq]; omega
theorem sL {f g h k : Nat → Int} {X Y Z T : Fp} (h1 : RN f X) (h2 : RN g Y) (h3 : RN h Z) (h4 : RN k T) : RN (atN (jn f g h k) 0) X ∧ RN (atN (jn f g h k) 16) Y ∧ RN (atN (jn f g h k) 32) Z ∧ RN (atN (jn f g h k) 48) T := by
 refine ⟨gt h1 fun j hj => ?_, gt h2 fun j hj => ?_, gt h3 fun j hj => ?_, gt h4 fun j hj => ?_⟩ <;> unfold atN jn
 · rw [sR (by omega), cond_true, Nat.zero_add]
 · rw [kO (by omega), sR (by omega), cond_false, cond_true, Nat.add_sub_cancel_left]
 · rw [kO (by omega), kO (by omega), sR (by omega), cond_false, cond_false, cond_true, Nat.add_sub_cancel_left]
 · rw [kO (by omega), kO (by omega), kO (by omega), cond_false, cond_false, cond_false, Nat.add_sub_cancel_left]
theorem rpt_mk {f g h k : Nat → Int} {X Y Z T : Fp} {a : Pt} (h1 : RN f X) (h2 : RN g Y) (h3 : RN h Z) (h4 : RN k T) (hr : Rep X Y Z T a) : RPt (jn f g h k) a := by
 obtain ⟨c1, c2, c3, c4⟩ := sL h1 h2 h3 h4
 exact ⟨_, _, _, _, hr, c1, c2, c3, c4⟩
theorem ref_d : (0 - fp 121665) * inv (fp 121666) = d := by
 have h : fp 121666 ≠ 0 := by decide +kernel
 have e : d * fp 121666 = 0 - fp 121665 := by decide +kernel
 rw [← e]
 have := ce h
 generalize inv (fp 121666) = i at *
 generalize d = q
 grind -lia -linarith
def topB (xs : List UInt8) (i : Int) : Nat := (leI xs / 2 ^ i.toNat).toNat
def bitB (xs : List UInt8) (i : Int) : Bool := decide (leI xs / 2 ^ i.toNat % 2 = 1)
theorem qZ {xs : List UInt8} (hx : xs.length = 32) : topB xs 256 = 0 := by
 have h := da xs
 rw [hx] at h
 unfold topB
 rw [show (2 : Int) ^ (256 : Int).toNat = 256 ^ 32 by decide +kernel, Int.ediv_eq_zero_of_lt h.1 h.2]; rfl
theorem oy (xs : List UInt8) : topB xs 0 = (leI xs).toNat := by unfold topB; simp
theorem js {xs : List UInt8} {i : Int} (h0 : 0 ≤ i) : topB xs i = topB xs (i + 1) * 2 + bif bitB xs i then 1 else 0 := by
 have hn : 0 ≤ leI xs := (da xs).1
 have hp : 0 ≤ leI xs / 2 ^ i.toNat := Int.ediv_nonneg hn (Int.pow_nonneg (by decide))
 unfold topB bitB
 rw [show (i + 1).toNat = i.toNat + 1 by omega, Int.pow_succ, ← Int.ediv_ediv_of_nonneg (Int.pow_nonneg (by decide))]
 generalize leI xs / 2 ^ i.toNat = q at *
 by_cases h : q % 2 = 1
 · rw [decide_eq_true h, cond_true]; omega
 · rw [decide_eq_false h, cond_false]; omega
theorem shr8 (i : Int) (h0 : 0 ≤ i) (xs : List UInt8) (hl : i < 8 * xs.length) : gb xs (i / 8) / 2 ^ (i % 8).toNat % 2 = leI xs / 2 ^ i.toNat % 2 := by
 have hg := ks xs (i / 8).toNat (by omega)
 rw [show ((i / 8).toNat : Int) = i / 8 by omega] at hg
 have e : (2 : Int) ^ i.toNat = 256 ^ (i / 8).toNat * 2 ^ (i % 8).toNat := by
   rw [show (256 : Int) = 2 ^ 8 by decide, ← Int.pow_mul, ← Int.pow_add]; congr 1; omega
 have hn : 0 ≤ leI xs := (da xs).1
 rw [e, ← Int.ediv_ediv_of_nonneg (Int.pow_nonneg (by decide)), ← hg]
 generalize leI xs / 256 ^ (i / 8).toNat = q
 have hm : i % 8 = 0 ∨ i % 8 = 1 ∨ i % 8 = 2 ∨ i % 8 = 3 ∨ i % 8 = 4 ∨ i % 8 = 5 ∨ i % 8 = 6 ∨ i % 8 = 7 := by omega
 rcases hm with h | h | h | h | h | h | h | h <;> rw [h] <;> simp <;> omega
theorem sS {xs : List UInt8} {i : Int} (hx : xs.length = 32) (h0 : 0 ≤ i) (h1 : i ≤ 255) {m b : Int} (hm : m = i % 8) (hb : Eqn b (gb xs (i / 8) / 2 ^ m.toNat % 2)) : decide (b = 1) = bitB xs i := by
 unfold Eqn at hb
 subst hm hb
 unfold bitB
 rw [shr8 i h0 xs (by omega)]
theorem pmul_F {a : Pt} (h : OnP a) {xs : List UInt8} {i : Int} (h0 : 0 ≤ i) (hb : bitB xs i = false) : padd (pmul (topB xs (i + 1)) a) (pmul (topB xs (i + 1)) a) = pmul (topB xs i) a := by
 rw [← eB h, js h0, hb, cond_false]; congr 1; omega
theorem pmul_T {a : Pt} (h : OnP a) {xs : List UInt8} {i : Int} (h0 : 0 ≤ i) (hb : bitB xs i = true) : padd (padd (pmul (topB xs (i + 1)) a) (pmul (topB xs (i + 1)) a)) a = pmul (topB xs i) a := by
 rw [← eB h, js h0, hb, cond_true, show topB xs (i + 1) * 2 + 1 = topB xs (i + 1) + topB xs (i + 1) + 1 by omega, eB h _ 1, lx]
theorem and127 {x : Int} (h : In x 0 255) : bits .and .u8 x 127 = bits .andNot .u8 x 128 := by
 have key : ∀ n : Fin 256, bits .and .u8 (n.val : Int) 127 = bits .andNot .u8 (n.val : Int) 128 := by decide +kernel
 unfold In at h
 have := key ⟨x.toNat, by omega⟩
 rwa [show ((x.toNat : Nat) : Int) = x by omega] at this
theorem sX {x : Int} (h : In x 0 255) : IntKind.u8.wrap (bits .and .u8 x 1 * 128) = IntKind.u8.wrap (x * 128) := by
 have key : ∀ n : Fin 256, IntKind.u8.wrap (bits .and .u8 (n.val : Int) 1 * 128) = IntKind.u8.wrap ((n.val : Int) * 128) := by decide +kernel
 unfold In at h
 have := key ⟨x.toNat, by omega⟩
 rwa [show ((x.toNat : Nat) : Int) = x by omega] at this
theorem n8 : fpB (fp 4 * inv (fp 5)) = baseB := by
 rw [fb (show fp 5 * (⟨46316835694926478169428394003475163141307993866256225615783033603165251855960, by decide⟩ * inv (fp 4)) = 1 from by
   have h4 := ce (show fp 4 ≠ 0 by decide +kernel)
   have e : fp 5 * ⟨46316835694926478169428394003475163141307993866256225615783033603165251855960, by decide⟩ = fp 4 := by decide +kernel
   generalize inv (fp 4) = i at *
   generalize fp 4 = f at *
   rw [← h4, ← e]; grind -lia -linarith)]
 have h4 := ce (show fp 4 ≠ 0 by decide +kernel)
 have e : fp 4 * ((⟨46316835694926478169428394003475163141307993866256225615783033603165251855960, by decide⟩ : Fp) * inv (fp 4)) = ⟨46316835694926478169428394003475163141307993866256225615783033603165251855960, by decide⟩ := by
   generalize inv (fp 4) = i at *
   generalize fp 4 = f at *
   generalize (⟨46316835694926478169428394003475163141307993866256225615783033603165251855960, by decide⟩ : Fp) = y
   grind -lia -linarith
 rw [e]
 decide +kernel
end Go.Proofs.YtllmbkmghmmhfaaGreatDoor.W
namespace Go.Proofs.YtllmbkmghmmhfaaGreatDoor.W
open Go Go.Eng Go.Byt
open Go.Fld Go.Ed
theorem nB (w : World) : Rets Tryz.prog 34 [] w (fun v w' => ∃ r, v = .agg (iv .i64 16 r).toArray ∧ RN r d ∧ Keep [] w w') := by
 have hB : Keep [] w w := Keep.refl _ _
 refine ac Tryz.func34 rfl (by decide) Tryz.ntmps34 rfl (fun fin _ hfin => a5 (aZ (ad (aj bA) rfl ?_)))
 rintro _ w1 ⟨b1, rfl, eb1, hb1, k1, z1⟩
 have ge_b1 : w.heap.size ≤ b1 := by have := hB.size; omega
 replace hB := hB.trans k1
 clear eb1 z1
 replace hb1 : Bk w1 b1 65 (iv .i64 16 (fun _ => 0)) := by rw [iv, bE]; exact hb1
 refine a6 (a5 (aZ (ad (a8 (vs := [_]) rfl (cx 0 (by decide) _)) rfl ?_)))
 rintro _ w2 ⟨hh1, rfl, E1, C1, k2⟩
 obtain ⟨hB, hb1⟩ := bN k2 hB hb1
 replace E1 : RN hh1 0 := oO ▸ E1
 refine ad (a8 (vs := [_]) rfl (cx 121665 (by decide) _)) rfl ?_
 rintro _ w3 ⟨hh2, rfl, E2, C2, k3⟩
 obtain ⟨hB, hb1⟩ := bN k3 hB hb1
 refine ad (a8 (vs := [_, _]) rfl (eF _ _ _ _ E1 E2 _)) rfl ?_
 rintro _ w4 ⟨hh3, rfl, E3, k4⟩
 obtain ⟨hB, hb1⟩ := bN k4 hB hb1
 refine ad (a8 (vs := [_]) rfl (cx 121666 (by decide) _)) rfl ?_
 rintro _ w5 ⟨hh4, rfl, E4, C3, k5⟩
 obtain ⟨hB, hb1⟩ := bN k5 hB hb1
 refine ad (a8 (vs := [_]) rfl (ei _ _ E4 _)) rfl ?_
 rintro _ w6 ⟨hh5, rfl, E5, k6⟩
 obtain ⟨hB, hb1⟩ := bN k6 hB hb1
 refine ad (a8 (vs := [_, _]) rfl (br _ _ _ _ E3 E5 _)) rfl ?_
 rintro _ w7 ⟨hh6, rfl, E6, k7⟩
 obtain ⟨hB, hb1⟩ := bN k7 hB hb1
 refine ae (bh (vs := iv .i64 16 hh6) bA rfl rfl rfl ai hb1 rfl) ?_
 rintro _ w8 ⟨hb2, k8, z2⟩
 replace hB := hB.new k8 (nw ge_b1)
 clear z2
 refine a6 (ba hfin Tryz.results34 rfl (ak bm bA hb2 rfl)  ?_)
 exact ⟨hh6, rfl, (by have e := E6; rw [ref_d] at e; exact e), hB⟩
theorem kY (f g : Nat → Int) (x y : Fp) (hf : RN f x) (hg : RN g y) (w : World) : Rets Tryz.prog 79 [.agg (iv .i64 16 f).toArray, .agg (iv .i64 16 g).toArray] w (fun v w' => ∃ r, v = .agg (iv .i64 64 r).toArray ∧ RPt r (x, y) ∧ Keep [] w w') := by
 have hB : Keep [] w w := Keep.refl _ _
 refine ac Tryz.func79 rfl (by decide) Tryz.ntmps79 rfl (fun fin _ hfin => a5 (aZ (ad (bc (cs := iv .i64 16 f) rfl rfl) rfl ?_)))
 rintro _ w1 ⟨b1, rfl, eb1, hb1, k1, z1⟩
 replace hB := hB.trans k1
 clear eb1 z1
 refine ad (bc (cs := iv .i64 16 g) rfl rfl) rfl ?_
 rintro _ w2 ⟨b2, rfl, eb2, hb2, k2, z2⟩
 obtain ⟨hB, hb1⟩ := bN k2 hB hb1
 clear eb2 z2
 refine ad (aj ct) rfl ?_
 rintro _ w3 ⟨b3, rfl, eb3, hb3, k3, z3⟩
 have ge_b3 : w.heap.size ≤ b3 := by have := hB.size; omega
 obtain ⟨hB, hb1, hb2⟩ := ca k3 hB hb1 hb2
 clear eb3 z3
 replace hb3 : Bk w3 b3 67 (iv .i64 64 (fun _ => 0)) := by rw [iv, bE]; exact hb3
 refine a6 (a5 (bf 7 [0, 1, 3, 4, 2, 5, 6] [2, 5] [] mixed [(2, _), (3, _), (4, _)] ⟨rfl, rfl, rfl, trivial⟩ (by decide +kernel) rfl (fun w4 k4 => ?_)))
 obtain ⟨hB, hb1, hb2, hb3⟩ := dG k4 hB hb1 hb2 hb3
 refine am 2 rfl rfl rfl rfl (fun W' kk => aa (cs' := iv .i64 16 f) bm bA rfl (Bk.s8 hb1 kk) rfl rfl) (am 3 rfl rfl rfl rfl (fun W' kk => aa (cs' := iv .i64 16 g) bm bA rfl (Bk.s8 hb2 kk) rfl rfl) (am 2 rfl rfl rfl rfl (fun W' kk => aa (cs' := iv .i64 16 f) bm bA rfl (Bk.s8 hb1 kk) rfl rfl) (am 3 rfl rfl rfl rfl (fun W' kk => aa (cs' := iv .i64 16 g) bm bA rfl (Bk.s8 hb2 kk) rfl rfl) (bq [] rfl rfl trivial rfl (a8 (vs := [_]) rfl (cx 1 (by decide) _)) ?_))))
 rintro _ w5 ⟨hh1, rfl, E1, C1, k5⟩
 refine ⟨k5, ?_⟩
 obtain ⟨hB, hb3⟩ := bN k5 hB hb3
 replace E1 : RN hh1 1 := iX ▸ E1
 refine bq [(8, _), (9, _)] rfl rfl ⟨rfl, rfl, trivial⟩ rfl (a8 (vs := [_, _]) rfl (br _ _ _ _ hf hg _)) ?_
 rintro _ w6 ⟨hh2, rfl, E2, k6⟩
 refine ⟨k6, ?_⟩
 obtain ⟨hB, hb3⟩ := bN k6 hB hb3
 refine kf [(5, _), (6, _), (7, _), (10, _)] rfl rfl ⟨rfl, rfl, rfl, rfl, trivial⟩ rfl (fun W' kk => dR (idx := [0, 1, 2, 3]) (xs := [.tmp 5, .tmp 6, .tmp 7, .tmp 10]) (vs := [_, _, _, _]) (css := [iv .i64 16 f, iv .i64 16 g, iv .i64 16 hh1, iv .i64 16 hh2]) (out := iv .i64 64 (jn f g hh1 hh2)) pl67 ct rfl rfl ⟨rfl, rfl, rfl, rfl, trivial⟩ rfl rfl) (bz (ae (bh (vs := iv .i64 64 (jn f g hh1 hh2)) ct rfl rfl rfl ai hb3 rfl) ?_))
 rintro _ w7 ⟨hb4, k7, z4⟩
 replace hB := hB.new k7 (nw ge_b3)
 clear z4
 refine a6 (ba hfin Tryz.results79 rfl (ak fW ct hb4 rfl)  ?_)
 exact ⟨_, rfl, rpt_mk hf hg E1 E2 (rep_of x y), hB⟩
theorem iQ (w : World) : Rets Tryz.prog 70 [] w (fun v w' => ∃ r, v = .agg (iv .i64 64 r).toArray ∧ RPt r zero ∧ Keep [] w w') := by
 have hB : Keep [] w w := Keep.refl _ _
 refine ac Tryz.func70 rfl (by decide) Tryz.ntmps70 rfl (fun fin _ hfin => a5 (aZ (ad (aj ct) rfl ?_)))
 rintro _ w1 ⟨b1, rfl, eb1, hb1, k1, z1⟩
 have ge_b1 : w.heap.size ≤ b1 := by have := hB.size; omega
 replace hB := hB.trans k1
 clear eb1 z1
 replace hb1 : Bk w1 b1 67 (iv .i64 64 (fun _ => 0)) := by rw [iv, bE]; exact hb1
 refine a6 (a5 (aZ (ad (a8 (vs := [_]) rfl (cx 0 (by decide) _)) rfl ?_)))
 rintro _ w2 ⟨hh1, rfl, E1, C1, k2⟩
 obtain ⟨hB, hb1⟩ := bN k2 hB hb1
 replace E1 : RN hh1 0 := oO ▸ E1
 refine ad (a8 (vs := [_]) rfl (cx 1 (by decide) _)) rfl ?_
 rintro _ w3 ⟨hh2, rfl, E2, C2, k3⟩
 obtain ⟨hB, hb1⟩ := bN k3 hB hb1
 replace E2 : RN hh2 1 := iX ▸ E2
 refine ad (a8 (vs := [_, _]) rfl (kY _ _ _ _ E1 E2 _)) rfl ?_
 rintro _ w4 ⟨hh3, rfl, E3, k4⟩
 obtain ⟨hB, hb1⟩ := bN k4 hB hb1
 refine ae (bh (vs := iv .i64 64 hh3) ct rfl rfl rfl ai hb1 rfl) ?_
 rintro _ w5 ⟨hb2, k5, z2⟩
 replace hB := hB.new k5 (nw ge_b1)
 clear z2
 refine a6 (ba hfin Tryz.results70 rfl (ak fW ct hb2 rfl)  ?_)
 exact ⟨hh3, rfl, E3, hB⟩
theorem mt (p q f : Nat → Int) (X1 Y1 Z1 T1 X2 Y2 Z2 T2 a : Fp) (hpX : RN (atN p 0) X1) (hpY : RN (atN p 16) Y1) (hpZ : RN (atN p 32) Z1) (hpT : RN (atN p 48) T1) (hqX : RN (atN q 0) X2) (hqY : RN (atN q 16) Y2) (hqZ : RN (atN q 32) Z2) (hqT : RN (atN q 48) T2) (hf : RN f a) (w : World) : Rets Tryz.prog 33 [.agg (iv .i64 64 p).toArray, .agg (iv .i64 64 q).toArray, .agg (iv .i64 16 f).toArray] w (fun v w' => ∃ r, v = .agg (iv .i64 64 r).toArray ∧ RN (atN r 0) (((X1 + Y1) * (X2 + Y2) - X1 * X2 - Y1 * Y2) * (Z1 * Z2 - T1 * T2 * a)) ∧ RN (atN r 16) ((Z1 * Z2 + T1 * T2 * a) * (Y1 * Y2 + X1 * X2)) ∧ RN (atN r 32) ((Z1 * Z2 - T1 * T2 * a) * (Z1 * Z2 + T1 * T2 * a)) ∧ RN (atN r 48) (((X1 + Y1) * (X2 + Y2) - X1 * X2 - Y1 * Y2) * (Y1 * Y2 + X1 * X2)) ∧ Keep [] w w') := by
  have hB : Keep [] w w := Keep.refl _ _
  refine ac Tryz.func33 rfl (by decide) Tryz.ntmps33 rfl (fun fin _ hfin => a5 (aZ (ad (bc (cs := iv .i64 64 p) rfl rfl) rfl ?_)))
  rintro _ w1 ⟨b1, rfl, eb1, hb1, k1, z1⟩
  replace hB := hB.trans k1
  clear eb1 z1
  refine ad (bc (cs := iv .i64 64 q) rfl rfl) rfl ?_
  rintro _ w2 ⟨b2, rfl, eb2, hb2, k2, z2⟩
  obtain ⟨hB, hb1⟩ := bN k2 hB hb1
  clear eb2 z2
  refine ad (bc (cs := iv .i64 16 f) rfl rfl) rfl ?_
  rintro _ w3 ⟨b3, rfl, eb3, hb3, k3, z3⟩
  obtain ⟨hB, hb1, hb2⟩ := ca k3 hB hb1 hb2
  clear eb3 z3
  refine ad (aj ct) rfl ?_
  rintro _ w4 ⟨b4, rfl, eb4, hb4, k4, z4⟩
  have ge_b4 : w.heap.size ≤ b4 := by have := hB.size; omega
  obtain ⟨hB, hb1, hb2, hb3⟩ := dG k4 hB hb1 hb2 hb3
  clear eb4 z4
  replace hb4 : Bk w4 b4 67 (iv .i64 64 (fun _ => 0)) := by rw [iv, bE]; exact hb4
  refine a6 (a5 (aZ (a7 (ax 0 aQ rfl bA (by decide) rfl rfl) rfl (a7 (dl bm bA rfl hb1 (by first | omega | (unfold In at *; omega))) rfl (a7 (ax 0 aQ rfl bA (by decide) rfl rfl) rfl (a7 (dl bm bA rfl hb2 (by first | omega | (unfold In at *; omega))) rfl (ad (a8 (vs := [_, _]) rfl (br _ _ _ _ hpX hqX _)) rfl ?_)))))))
  rintro _ w5 ⟨hh1, rfl, E1, k5⟩
  obtain ⟨hB, hb1, hb2, hb3, hb4⟩ := dw k5 hB hb1 hb2 hb3 hb4
  refine ad (aj bA) rfl ?_
  rintro _ w6 ⟨b5, rfl, eb5, hb5, k6, z5⟩
  have ge_b5 : w.heap.size ≤ b5 := by have := hB.size; omega
  have ne_b1_b5 : b1 ≠ b5 := by have := hb1.lt; omega
  have ne_b2_b5 : b2 ≠ b5 := by have := hb2.lt; omega
  have ne_b3_b5 : b3 ≠ b5 := by have := hb3.lt; omega
  have ne_b4_b5 : b4 ≠ b5 := by have := hb4.lt; omega
  obtain ⟨hB, hb1, hb2, hb3, hb4⟩ := dw k6 hB hb1 hb2 hb3 hb4
  clear eb5 z5
  replace hb5 : Bk w6 b5 65 (iv .i64 16 (fun _ => 0)) := by rw [iv, bE]; exact hb5
  refine ae (bh (vs := iv .i64 16 hh1) bA rfl rfl rfl ai hb5 rfl) ?_
  rintro _ w7 ⟨hb6, k7, z6⟩
  replace hb1 := hb1.keep k7 (nm ne_b1_b5)
  replace hb2 := hb2.keep k7 (nm ne_b2_b5)
  replace hb3 := hb3.keep k7 (nm ne_b3_b5)
  replace hb4 := hb4.keep k7 (nm ne_b4_b5)
  replace hB := hB.new k7 (nw ge_b5)
  clear z6
  refine a6 (a5 (aZ (a7 (ax 16 aQ rfl bA (by decide) rfl rfl) rfl (a7 (dl bm bA rfl hb1 (by first | omega | (unfold In at *; omega))) rfl (a7 (ax 16 aQ rfl bA (by decide) rfl rfl) rfl (a7 (dl bm bA rfl hb2 (by first | omega | (unfold In at *; omega))) rfl (ad (a8 (vs := [_, _]) rfl (br _ _ _ _ hpY hqY _)) rfl ?_)))))))
  rintro _ w8 ⟨hh2, rfl, E2, k8⟩
  obtain ⟨hB, hb1, hb2, hb3, hb4, hb6⟩ := dq k8 hB hb1 hb2 hb3 hb4 hb6
  refine ad (aj bA) rfl ?_
  rintro _ w9 ⟨b6, rfl, eb6, hb7, k9, z7⟩
  have ge_b6 : w.heap.size ≤ b6 := by have := hB.size; omega
  have ne_b1_b6 : b1 ≠ b6 := by have := hb1.lt; omega
  have ne_b2_b6 : b2 ≠ b6 := by have := hb2.lt; omega
  have ne_b3_b6 : b3 ≠ b6 := by have := hb3.lt; omega
  have ne_b4_b6 : b4 ≠ b6 := by have := hb4.lt; omega
  have ne_b5_b6 : b5 ≠ b6 := by have := hb6.lt; omega
  obtain ⟨hB, hb1, hb2, hb3, hb4, hb6⟩ := dq k9 hB hb1 hb2 hb3 hb4 hb6
  clear eb6 z7
  replace hb7 : Bk w9 b6 65 (iv .i64 16 (fun _ => 0)) := by rw [iv, bE]; exact hb7
  refine ae (bh (vs := iv .i64 16 hh2) bA rfl rfl rfl ai hb7 rfl) ?_
  rintro _ w10 ⟨hb8, k10, z8⟩
  replace hb1 := hb1.keep k10 (nm ne_b1_b6)
  replace hb2 := hb2.keep k10 (nm ne_b2_b6)
  replace hb3 := hb3.keep k10 (nm ne_b3_b6)
  replace hb4 := hb4.keep k10 (nm ne_b4_b6)
  replace hb6 := hb6.keep k10 (nm ne_b5_b6)
  replace hB := hB.new k10 (nw ge_b6)
  clear z8
  refine a6 (a9 [(3, _), (4, _), (5, _), (6, _), (7, _), (8, _)] ⟨rfl, rfl, rfl, rfl, rfl, rfl, trivial⟩ (a5 ?_))
  have gs1 := hB.size
  have lt1 := hb1.lt
  have lt2 := hb2.lt
  have lt4 := hb4.lt
  have lt5 := hb6.lt
  have lt6 := hb8.lt
  refine bW 8 [0, 1, 2, 3, 5, 4, 6] [4, 6] [] [(7, 65, List.replicate 16 (.int .i64 0))] mixed [(3, _), (4, _), (5, _), (6, _), (7, _), (8, _)] ⟨rfl, rfl, rfl, rfl, rfl, rfl, trivial⟩ (by decide +kernel) (by decide) (by decide) ?_ (fun x hx => by cases hx) rfl (fun w11 k11 => ?_)
  · simp only [List.forall_mem_cons]; exact ⟨⟨_, _, _, _, _, _, rfl, bA⟩, fun q hq => by cases hq⟩
  obtain ⟨hB, hb1, hb2, hb3, hb4, hb6, hb8⟩ := kq6 k11 hB hb1 hb2 hb3 hb4 hb6 hb8
  refine al 3 rfl rfl rfl rfl (fun W' kk => ax 48 aQ rfl bA (by decide) rfl rfl) (al 25 rfl rfl rfl rfl (fun W' kk => dl bm bA rfl (Bk.s8 hb1 kk) (by first | omega | (unfold In at *; omega))) (al 4 rfl rfl rfl rfl (fun W' kk => ax 48 aQ rfl bA (by decide) rfl rfl) (al 27 rfl rfl rfl rfl (fun W' kk => dl bm bA rfl (Bk.s8 hb2 kk) (by first | omega | (unfold In at *; omega))) (al 5 rfl rfl rfl rfl (fun W' kk => aa (cs' := iv .i64 16 f) bm bA rfl (Bk.s8 hb3 kk) rfl rfl) (bo [(26, _), (28, _)] rfl rfl ⟨rfl, rfl, trivial⟩ rfl (fun w13 k13 => ?_))))))
  obtain ⟨hB, hb1, hb2, hb4, hb6, hb8⟩ := dq k13 hB hb1 hb2 hb4 hb6 hb8
  refine (a8 (vs := [_, _]) rfl (br _ _ _ _ hpT hqT _)).mono ?_
  rintro _ w12 ⟨hh3, rfl, E3, k12⟩
  refine ⟨k12, nox, ?_⟩
  obtain ⟨hB, hb1, hb2, hb4, hb6, hb8⟩ := dq k12 hB hb1 hb2 hb4 hb6 hb8
  refine bo [(29, _), (30, _)] rfl rfl ⟨rfl, rfl, trivial⟩ rfl (fun w15 k15 => ?_)
  obtain ⟨hB, hb1, hb2, hb4, hb6, hb8⟩ := dq k15 hB hb1 hb2 hb4 hb6 hb8
  refine (a8 (vs := [_, _]) rfl (br _ _ _ _ E3 hf _)).mono ?_
  rintro _ w14 ⟨hh4, rfl, E4, k14⟩
  refine ⟨k14, nox, ?_⟩
  obtain ⟨hB, hb1, hb2, hb4, hb6, hb8⟩ := dq k14 hB hb1 hb2 hb4 hb6 hb8
  refine cC (fun w16 k16 => ?_)
  obtain ⟨hB, hb1, hb2, hb4, hb6, hb8⟩ := dq k16 hB hb1 hb2 hb4 hb6 hb8
  intro b7 eb7 lb1 hb9 ds1 sp1
  have ge_b7 : w.heap.size ≤ b7 := Nat.le_trans gs1 eb7
  have ne_b1_b7 : b1 ≠ b7 := Nat.ne_of_lt (Nat.lt_of_lt_of_le lt1 eb7)
  have ne_b2_b7 : b2 ≠ b7 := Nat.ne_of_lt (Nat.lt_of_lt_of_le lt2 eb7)
  have ne_b4_b7 : b4 ≠ b7 := Nat.ne_of_lt (Nat.lt_of_lt_of_le lt4 eb7)
  have ne_b5_b7 : b5 ≠ b7 := Nat.ne_of_lt (Nat.lt_of_lt_of_le lt5 eb7)
  have ne_b6_b7 : b6 ≠ b7 := Nat.ne_of_lt (Nat.lt_of_lt_of_le lt6 eb7)
  replace hb9 : Bk w16 b7 65 (iv .i64 16 (fun _ => 0)) := by rw [iv, bE]; exact hb9
  refine bX (ae (bh (vs := iv .i64 16 hh4) bA rfl rfl rfl ai hb9 rfl) ?_)
  rintro _ w17 ⟨hb10, k17, z9⟩
  replace hb1 := hb1.keep k17 (nm ne_b1_b7)
  replace hb2 := hb2.keep k17 (nm ne_b2_b7)
  replace hb4 := hb4.keep k17 (nm ne_b4_b7)
  replace hb6 := hb6.keep k17 (nm ne_b5_b7)
  replace hb8 := hb8.keep k17 (nm ne_b6_b7)
  replace hB := hB.new k17 (nw ge_b7)
  clear z9
  refine a6 (a5 (aZ (a7 (ax 32 aQ rfl bA (by decide) rfl rfl) rfl (a7 (dl bm bA rfl hb1 (by first | omega | (unfold In at *; omega))) rfl (a7 (ax 32 aQ rfl bA (by decide) rfl rfl) rfl (a7 (dl bm bA rfl hb2 (by first | omega | (unfold In at *; omega))) rfl (ad (a8 (vs := [_, _]) rfl (br _ _ _ _ hpZ hqZ _)) rfl ?_)))))))
  rintro _ w18 ⟨hh5, rfl, E5, k18⟩
  obtain ⟨hB, hb1, hb2, hb4, hb6, hb8, hb10⟩ := kq6 k18 hB hb1 hb2 hb4 hb6 hb8 hb10
  refine ad (aj bA) rfl ?_
  rintro _ w19 ⟨b8, rfl, eb8, hb11, k19, z10⟩
  have ge_b8 : w.heap.size ≤ b8 := by have := hB.size; omega
  have ne_b1_b8 : b1 ≠ b8 := by have := hb1.lt; omega
  have ne_b2_b8 : b2 ≠ b8 := by have := hb2.lt; omega
  have ne_b4_b8 : b4 ≠ b8 := by have := hb4.lt; omega
  have ne_b5_b8 : b5 ≠ b8 := by have := hb6.lt; omega
  have ne_b6_b8 : b6 ≠ b8 := by have := hb8.lt; omega
  have ne_b7_b8 : b7 ≠ b8 := by have := hb10.lt; omega
  obtain ⟨hB, hb1, hb2, hb4, hb6, hb8, hb10⟩ := kq6 k19 hB hb1 hb2 hb4 hb6 hb8 hb10
  clear eb8 z10
  replace hb11 : Bk w19 b8 65 (iv .i64 16 (fun _ => 0)) := by rw [iv, bE]; exact hb11
  refine ae (bh (vs := iv .i64 16 hh5) bA rfl rfl rfl ai hb11 rfl) ?_
  rintro _ w20 ⟨hb12, k20, z11⟩
  replace hb1 := hb1.keep k20 (nm ne_b1_b8)
  replace hb2 := hb2.keep k20 (nm ne_b2_b8)
  replace hb4 := hb4.keep k20 (nm ne_b4_b8)
  replace hb6 := hb6.keep k20 (nm ne_b5_b8)
  replace hb8 := hb8.keep k20 (nm ne_b6_b8)
  replace hb10 := hb10.keep k20 (nm ne_b7_b8)
  replace hB := hB.new k20 (nw ge_b8)
  clear z11
  refine a6 (a9 [(3, _), (4, _), (6, _), (7, _), (8, _), (9, _), (10, _)] ⟨rfl, rfl, rfl, rfl, rfl, rfl, rfl, trivial⟩ (a5 ?_))
  have gs2 := hB.size
  have lt9 := hb4.lt
  have lt10 := hb6.lt
  have lt11 := hb8.lt
  have lt12 := hb10.lt
  have lt13 := hb12.lt
  refine bW 16 [0, 1, 2, 3, 5, 6, 7, 8, 11, 13, 4, 9, 10, 12, 14] [4, 9, 10, 12, 14] [] [(15, 65, List.replicate 16 (.int .i64 0))] mixed [(3, _), (4, _), (7, _), (8, _), (6, _), (9, _), (10, _)] ⟨rfl, rfl, rfl, rfl, rfl, rfl, rfl, trivial⟩ (by decide +kernel) (by decide) (by decide) ?_ (fun x hx => by cases hx) rfl (fun w21 k21 => ?_)
  · simp only [List.forall_mem_cons]; exact ⟨⟨_, _, _, _, _, _, rfl, bA⟩, fun q hq => by cases hq⟩
  obtain ⟨hB, hb1, hb2, hb4, hb6, hb8, hb10, hb12⟩ := kq7 k21 hB hb1 hb2 hb4 hb6 hb8 hb10 hb12
  refine al 3 rfl rfl rfl rfl (fun W' kk => ax 0 aQ rfl bA (by decide) rfl rfl) (al 37 rfl rfl rfl rfl (fun W' kk => dl bm bA rfl (Bk.s8 hb1 kk) (by first | omega | (unfold In at *; omega))) (al 3 rfl rfl rfl rfl (fun W' kk => ax 16 aQ rfl bA (by decide) rfl rfl) (al 39 rfl rfl rfl rfl (fun W' kk => dl bm bA rfl (Bk.s8 hb1 kk) (by first | omega | (unfold In at *; omega))) (al 4 rfl rfl rfl rfl (fun W' kk => ax 0 aQ rfl bA (by decide) rfl rfl) (al 42 rfl rfl rfl rfl (fun W' kk => dl bm bA rfl (Bk.s8 hb2 kk) (by first | omega | (unfold In at *; omega))) (al 4 rfl rfl rfl rfl (fun W' kk => ax 16 aQ rfl bA (by decide) rfl rfl) (al 44 rfl rfl rfl rfl (fun W' kk => dl bm bA rfl (Bk.s8 hb2 kk) (by first | omega | (unfold In at *; omega))) (al 7 rfl rfl rfl rfl (fun W' kk => aa (cs' := iv .i64 16 hh1) bm bA rfl (Bk.s8 hb6 kk) rfl rfl) ?_))))))))
  refine al 8 rfl rfl rfl rfl (fun W' kk => aa (cs' := iv .i64 16 hh2) bm bA rfl (Bk.s8 hb8 kk) rfl rfl) (bo [(38, _), (40, _)] rfl rfl ⟨rfl, rfl, trivial⟩ rfl (fun w23 k23 => ?_))
  obtain ⟨hB, hb4, hb6, hb8, hb10, hb12⟩ := dq k23 hB hb4 hb6 hb8 hb10 hb12
  refine (a8 (vs := [_, _]) rfl (fK _ _ _ _ hpX hpY _)).mono ?_
  rintro _ w22 ⟨hh6, rfl, E6, k22⟩
  refine ⟨k22, nox, ?_⟩
  obtain ⟨hB, hb4, hb6, hb8, hb10, hb12⟩ := dq k22 hB hb4 hb6 hb8 hb10 hb12
  refine bo [(43, _), (45, _)] rfl rfl ⟨rfl, rfl, trivial⟩ rfl (fun w25 k25 => ?_)
  obtain ⟨hB, hb4, hb6, hb8, hb10, hb12⟩ := dq k25 hB hb4 hb6 hb8 hb10 hb12
  refine (a8 (vs := [_, _]) rfl (fK _ _ _ _ hqX hqY _)).mono ?_
  rintro _ w24 ⟨hh7, rfl, E7, k24⟩
  refine ⟨k24, nox, ?_⟩
  obtain ⟨hB, hb4, hb6, hb8, hb10, hb12⟩ := dq k24 hB hb4 hb6 hb8 hb10 hb12
  refine bo [(41, _), (46, _)] rfl rfl ⟨rfl, rfl, trivial⟩ rfl (fun w27 k27 => ?_)
  obtain ⟨hB, hb4, hb6, hb8, hb10, hb12⟩ := dq k27 hB hb4 hb6 hb8 hb10 hb12
  refine (a8 (vs := [_, _]) rfl (br _ _ _ _ E6 E7 _)).mono ?_
  rintro _ w26 ⟨hh8, rfl, E8, k26⟩
  refine ⟨k26, nox, ?_⟩
  obtain ⟨hB, hb4, hb6, hb8, hb10, hb12⟩ := dq k26 hB hb4 hb6 hb8 hb10 hb12
  refine bo [(47, _), (48, _)] rfl rfl ⟨rfl, rfl, trivial⟩ rfl (fun w29 k29 => ?_)
  obtain ⟨hB, hb4, hb6, hb8, hb10, hb12⟩ := dq k29 hB hb4 hb6 hb8 hb10 hb12
  refine (a8 (vs := [_, _]) rfl (eF _ _ _ _ E8 E1 _)).mono ?_
  rintro _ w28 ⟨hh9, rfl, E9, k28⟩
  refine ⟨k28, nox, ?_⟩
  obtain ⟨hB, hb4, hb6, hb8, hb10, hb12⟩ := dq k28 hB hb4 hb6 hb8 hb10 hb12
  refine bo [(49, _), (50, _)] rfl rfl ⟨rfl, rfl, trivial⟩ rfl (fun w31 k31 => ?_)
  obtain ⟨hB, hb4, hb6, hb8, hb10, hb12⟩ := dq k31 hB hb4 hb6 hb8 hb10 hb12
  refine (a8 (vs := [_, _]) rfl (eF _ _ _ _ E9 E2 _)).mono ?_
  rintro _ w30 ⟨hh10, rfl, E10, k30⟩
  refine ⟨k30, nox, ?_⟩
  obtain ⟨hB, hb4, hb6, hb8, hb10, hb12⟩ := dq k30 hB hb4 hb6 hb8 hb10 hb12
  refine cC (fun w32 k32 => ?_)
  obtain ⟨hB, hb4, hb6, hb8, hb10, hb12⟩ := dq k32 hB hb4 hb6 hb8 hb10 hb12
  intro b9 eb9 lb2 hb13 ds2 sp2
  have ge_b9 : w.heap.size ≤ b9 := Nat.le_trans gs2 eb9
  have ne_b4_b9 : b4 ≠ b9 := Nat.ne_of_lt (Nat.lt_of_lt_of_le lt9 eb9)
  have ne_b5_b9 : b5 ≠ b9 := Nat.ne_of_lt (Nat.lt_of_lt_of_le lt10 eb9)
  have ne_b6_b9 : b6 ≠ b9 := Nat.ne_of_lt (Nat.lt_of_lt_of_le lt11 eb9)
  have ne_b7_b9 : b7 ≠ b9 := Nat.ne_of_lt (Nat.lt_of_lt_of_le lt12 eb9)
  have ne_b8_b9 : b8 ≠ b9 := Nat.ne_of_lt (Nat.lt_of_lt_of_le lt13 eb9)
  replace hb13 : Bk w32 b9 65 (iv .i64 16 (fun _ => 0)) := by rw [iv, bE]; exact hb13
  refine bX (ae (bh (vs := iv .i64 16 hh10) bA rfl rfl rfl ai hb13 rfl) ?_)
  rintro _ w33 ⟨hb14, k33, z12⟩
  replace hb4 := hb4.keep k33 (nm ne_b4_b9)
  replace hb6 := hb6.keep k33 (nm ne_b5_b9)
  replace hb8 := hb8.keep k33 (nm ne_b6_b9)
  replace hb10 := hb10.keep k33 (nm ne_b7_b9)
  replace hb12 := hb12.keep k33 (nm ne_b8_b9)
  replace hB := hB.new k33 (nw ge_b9)
  clear z12
  refine a6 (a9 [(7, _), (8, _), (6, _), (9, _), (10, _), (11, _)] ⟨rfl, rfl, rfl, rfl, rfl, rfl, trivial⟩ (a5 (aZ (a7 (aa (cs' := iv .i64 16 hh5) bm bA rfl hb12 rfl rfl) rfl (a7 (aa (cs' := iv .i64 16 hh4) bm bA rfl hb10 rfl rfl) rfl (ad (a8 (vs := [_, _]) rfl (eF _ _ _ _ E5 E4 _)) rfl ?_))))))
  rintro _ w34 ⟨hh11, rfl, E11, k34⟩
  obtain ⟨hB, hb4, hb6, hb8, hb10, hb12, hb14⟩ := kq6 k34 hB hb4 hb6 hb8 hb10 hb12 hb14
  refine ad (aj bA) rfl ?_
  rintro _ w35 ⟨b10, rfl, eb10, hb15, k35, z13⟩
  have ge_b10 : w.heap.size ≤ b10 := by have := hB.size; omega
  have ne_b4_b10 : b4 ≠ b10 := by have := hb4.lt; omega
  have ne_b5_b10 : b5 ≠ b10 := by have := hb6.lt; omega
  have ne_b6_b10 : b6 ≠ b10 := by have := hb8.lt; omega
  have ne_b7_b10 : b7 ≠ b10 := by have := hb10.lt; omega
  have ne_b8_b10 : b8 ≠ b10 := by have := hb12.lt; omega
  have ne_b9_b10 : b9 ≠ b10 := by have := hb14.lt; omega
  obtain ⟨hB, hb4, hb6, hb8, hb10, hb12, hb14⟩ := kq6 k35 hB hb4 hb6 hb8 hb10 hb12 hb14
  clear eb10 z13
  replace hb15 : Bk w35 b10 65 (iv .i64 16 (fun _ => 0)) := by rw [iv, bE]; exact hb15
  refine ae (bh (vs := iv .i64 16 hh11) bA rfl rfl rfl ai hb15 rfl) ?_
  rintro _ w36 ⟨hb16, k36, z14⟩
  replace hb4 := hb4.keep k36 (nm ne_b4_b10)
  replace hb6 := hb6.keep k36 (nm ne_b5_b10)
  replace hb8 := hb8.keep k36 (nm ne_b6_b10)
  replace hb10 := hb10.keep k36 (nm ne_b7_b10)
  replace hb12 := hb12.keep k36 (nm ne_b8_b10)
  replace hb14 := hb14.keep k36 (nm ne_b9_b10)
  replace hB := hB.new k36 (nw ge_b10)
  clear z14
  refine a6 (a5 (aZ (a7 (aa (cs' := iv .i64 16 hh5) bm bA rfl hb12 rfl rfl) rfl (a7 (aa (cs' := iv .i64 16 hh4) bm bA rfl hb10 rfl rfl) rfl (ad (a8 (vs := [_, _]) rfl (fK _ _ _ _ E5 E4 _)) rfl ?_)))))
  rintro _ w37 ⟨hh12, rfl, E12, k37⟩
  obtain ⟨hB, hb4, hb6, hb8, hb14, hb16⟩ := dq k37 hB hb4 hb6 hb8 hb14 hb16
  refine ad (aj bA) rfl ?_
  rintro _ w38 ⟨b11, rfl, eb11, hb17, k38, z15⟩
  have ge_b11 : w.heap.size ≤ b11 := by have := hB.size; omega
  have ne_b4_b11 : b4 ≠ b11 := by have := hb4.lt; omega
  have ne_b5_b11 : b5 ≠ b11 := by have := hb6.lt; omega
  have ne_b6_b11 : b6 ≠ b11 := by have := hb8.lt; omega
  have ne_b9_b11 : b9 ≠ b11 := by have := hb14.lt; omega
  have ne_b10_b11 : b10 ≠ b11 := by have := hb16.lt; omega
  obtain ⟨hB, hb4, hb6, hb8, hb14, hb16⟩ := dq k38 hB hb4 hb6 hb8 hb14 hb16
  clear eb11 z15
  replace hb17 : Bk w38 b11 65 (iv .i64 16 (fun _ => 0)) := by rw [iv, bE]; exact hb17
  refine ae (bh (vs := iv .i64 16 hh12) bA rfl rfl rfl ai hb17 rfl) ?_
  rintro _ w39 ⟨hb18, k39, z16⟩
  replace hb4 := hb4.keep k39 (nm ne_b4_b11)
  replace hb6 := hb6.keep k39 (nm ne_b5_b11)
  replace hb8 := hb8.keep k39 (nm ne_b6_b11)
  replace hb14 := hb14.keep k39 (nm ne_b9_b11)
  replace hb16 := hb16.keep k39 (nm ne_b10_b11)
  replace hB := hB.new k39 (nw ge_b11)
  clear z16
  refine a6 (a5 (aZ (a7 (aa (cs' := iv .i64 16 hh2) bm bA rfl hb8 rfl rfl) rfl (a7 (aa (cs' := iv .i64 16 hh1) bm bA rfl hb6 rfl rfl) rfl (ad (a8 (vs := [_, _]) rfl (fK _ _ _ _ E2 E1 _)) rfl ?_)))))
  rintro _ w40 ⟨hh13, rfl, E13, k40⟩
  obtain ⟨hB, hb4, hb14, hb16, hb18⟩ := dw k40 hB hb4 hb14 hb16 hb18
  refine ad (aj bA) rfl ?_
  rintro _ w41 ⟨b12, rfl, eb12, hb19, k41, z17⟩
  have ge_b12 : w.heap.size ≤ b12 := by have := hB.size; omega
  have ne_b4_b12 : b4 ≠ b12 := by have := hb4.lt; omega
  have ne_b9_b12 : b9 ≠ b12 := by have := hb14.lt; omega
  have ne_b10_b12 : b10 ≠ b12 := by have := hb16.lt; omega
  have ne_b11_b12 : b11 ≠ b12 := by have := hb18.lt; omega
  obtain ⟨hB, hb4, hb14, hb16, hb18⟩ := dw k41 hB hb4 hb14 hb16 hb18
  clear eb12 z17
  replace hb19 : Bk w41 b12 65 (iv .i64 16 (fun _ => 0)) := by rw [iv, bE]; exact hb19
  refine ae (bh (vs := iv .i64 16 hh13) bA rfl rfl rfl ai hb19 rfl) ?_
  rintro _ w42 ⟨hb20, k42, z18⟩
  replace hb4 := hb4.keep k42 (nm ne_b4_b12)
  replace hb14 := hb14.keep k42 (nm ne_b9_b12)
  replace hb16 := hb16.keep k42 (nm ne_b10_b12)
  replace hb18 := hb18.keep k42 (nm ne_b11_b12)
  replace hB := hB.new k42 (nw ge_b12)
  clear z18
  refine a6 (a9 [(6, _), (11, _), (12, _), (13, _), (14, _)] ⟨rfl, rfl, rfl, rfl, rfl, trivial⟩ (a5 (bf 13 [0, 1, 3, 4, 6, 7, 9, 10, 2, 5, 8, 11, 12] [2, 5, 8, 11] [] mixed [(11, _), (12, _), (13, _), (14, _), (6, _)] ⟨rfl, rfl, rfl, rfl, rfl, trivial⟩ (by decide +kernel) rfl (fun w43 k43 => ?_))))
  obtain ⟨hB, hb4, hb14, hb16, hb18, hb20⟩ := dq k43 hB hb4 hb14 hb16 hb18 hb20
  refine am 11 rfl rfl rfl rfl (fun W' kk => aa (cs' := iv .i64 16 hh10) bm bA rfl (Bk.s8 hb14 kk) rfl rfl) (am 12 rfl rfl rfl rfl (fun W' kk => aa (cs' := iv .i64 16 hh11) bm bA rfl (Bk.s8 hb16 kk) rfl rfl) (am 13 rfl rfl rfl rfl (fun W' kk => aa (cs' := iv .i64 16 hh12) bm bA rfl (Bk.s8 hb18 kk) rfl rfl) (am 14 rfl rfl rfl rfl (fun W' kk => aa (cs' := iv .i64 16 hh13) bm bA rfl (Bk.s8 hb20 kk) rfl rfl) (am 12 rfl rfl rfl rfl (fun W' kk => aa (cs' := iv .i64 16 hh11) bm bA rfl (Bk.s8 hb16 kk) rfl rfl) (am 13 rfl rfl rfl rfl (fun W' kk => aa (cs' := iv .i64 16 hh12) bm bA rfl (Bk.s8 hb18 kk) rfl rfl) (am 11 rfl rfl rfl rfl (fun W' kk => aa (cs' := iv .i64 16 hh10) bm bA rfl (Bk.s8 hb14 kk) rfl rfl) (am 14 rfl rfl rfl rfl (fun W' kk => aa (cs' := iv .i64 16 hh13) bm bA rfl (Bk.s8 hb20 kk) rfl rfl) (bq [(61, _), (62, _)] rfl rfl ⟨rfl, rfl, trivial⟩ rfl (a8 (vs := [_, _]) rfl (br _ _ _ _ E10 E11 _)) ?_))))))))
  rintro _ w44 ⟨hh14, rfl, E14, k44⟩
  refine ⟨k44, ?_⟩
  obtain ⟨hB, hb4⟩ := bN k44 hB hb4
  refine bq [(64, _), (65, _)] rfl rfl ⟨rfl, rfl, trivial⟩ rfl (a8 (vs := [_, _]) rfl (br _ _ _ _ E12 E13 _)) ?_
  rintro _ w45 ⟨hh15, rfl, E15, k45⟩
  refine ⟨k45, ?_⟩
  obtain ⟨hB, hb4⟩ := bN k45 hB hb4
  refine bq [(67, _), (68, _)] rfl rfl ⟨rfl, rfl, trivial⟩ rfl (a8 (vs := [_, _]) rfl (br _ _ _ _ E11 E12 _)) ?_
  rintro _ w46 ⟨hh16, rfl, E16, k46⟩
  refine ⟨k46, ?_⟩
  obtain ⟨hB, hb4⟩ := bN k46 hB hb4
  refine bq [(70, _), (71, _)] rfl rfl ⟨rfl, rfl, trivial⟩ rfl (a8 (vs := [_, _]) rfl (br _ _ _ _ E10 E13 _)) ?_
  rintro _ w47 ⟨hh17, rfl, E17, k47⟩
  refine ⟨k47, ?_⟩
  obtain ⟨hB, hb4⟩ := bN k47 hB hb4
  refine kf [(63, _), (66, _), (69, _), (72, _)] rfl rfl ⟨rfl, rfl, rfl, rfl, trivial⟩ rfl (fun W' kk => dR (idx := [0, 1, 2, 3]) (xs := [.tmp 63, .tmp 66, .tmp 69, .tmp 72]) (vs := [_, _, _, _]) (css := [iv .i64 16 hh14, iv .i64 16 hh15, iv .i64 16 hh16, iv .i64 16 hh17]) (out := iv .i64 64 (jn hh14 hh15 hh16 hh17)) pl67 ct rfl rfl ⟨rfl, rfl, rfl, rfl, trivial⟩ rfl rfl) (bz (ae (bh (vs := iv .i64 64 (jn hh14 hh15 hh16 hh17)) ct rfl rfl rfl ai hb4 rfl) ?_))
  rintro _ w48 ⟨hb21, k48, z19⟩
  replace hB := hB.new k48 (nw ge_b4)
  clear z19
  refine a6 (a9 [(6, _)] ⟨rfl, trivial⟩ (ba hfin Tryz.results33 rfl (ak fW ct hb21 rfl)  ?_))
  obtain ⟨c1, c2, c3, c4⟩ := sL E14 E15 E16 E17
  exact ⟨_, rfl, c1, c2, c3, c4, hB⟩
theorem rplusR {p q f : Nat → Int} {a b : Pt} (hp : RPt p a) (hq : RPt q b) (oa : OnP a) (ob : OnP b) (hf : RN f d) (w : World) : Rets Tryz.prog 33 [.agg (iv .i64 64 p).toArray, .agg (iv .i64 64 q).toArray, .agg (iv .i64 16 f).toArray] w (fun v w' => ∃ r, v = .agg (iv .i64 64 r).toArray ∧ RPt r (padd a b) ∧ Keep [] w w') := by
  obtain ⟨X1, Y1, Z1, T1, r1, a1, a2, a3, a4⟩ := hp
  obtain ⟨X2, Y2, Z2, T2, r2, b1, b2, b3, b4⟩ := hq
  exact (mt p q f _ _ _ _ _ _ _ _ _ a1 a2 a3 a4 b1 b2 b3 b4 hf w).mono fun v w' ⟨r, e, c1, c2, c3, c4, k⟩ => ⟨r, e, ⟨_, _, _, _, lr oa ob r1 r2, c1, c2, c3, c4⟩, k⟩
theorem shr_in {x n : Int} (h : 0 ≤ x ∧ x ≤ 255) : In (x / 2 ^ n.toNat) 0 255 := by
 have hp : (0 : Int) < 2 ^ n.toNat := Int.pow_pos (by decide)
 exact ⟨Int.ediv_nonneg h.1 (Int.le_of_lt hp), Int.le_trans (Int.ediv_le_self _ h.1) h.2⟩
theorem sY {x : Int} (h : In x 0 255) : bits .and .u8 x 1 = x % 2 := cL (k := .u8) (a := 0) (b := 255) 1 (c := 1) (m := 2) h rfl rfl rfl rfl rfl rfl
theorem rtimesR (p : Nat → Int) (a : Pt) (v : Value) (xs : List UInt8) (hp : RPt p a) (ha : OnP a) (w : World) (hv : RdB w v xs) (hx : xs.length = 32) : Rets Tryz.prog 32 [.agg (iv .i64 64 p).toArray, v] w (fun u w' => ∃ r, u = .tuple #[.agg (iv .i64 64 r).toArray, .int .i64 0] ∧ RPt r (pmul (leI xs).toNat a) ∧ Keep [] w w') := by
 have hB : Keep [] w w := Keep.refl _ _
 refine ac Tryz.func32 rfl (by decide) Tryz.ntmps32 rfl (fun fin _ hfin => a5 (aZ (ad (bc (cs := iv .i64 64 p) rfl rfl) rfl ?_)))
 rintro _ w1 ⟨b1, rfl, eb1, hb1, k1, z1⟩
 replace hB := hB.trans k1
 clear eb1 z1
 refine ad (aj ct) rfl ?_
 rintro _ w2 ⟨b2, rfl, eb2, hb2, k2, z2⟩
 have ge_b2 : w.heap.size ≤ b2 := by have := hB.size; omega
 obtain ⟨hB, hb1⟩ := bN k2 hB hb1
 clear eb2 z2
 replace hb2 : Bk w2 b2 67 (iv .i64 64 (fun _ => 0)) := by rw [iv, bE]; exact hb2
 refine oga rfl rfl (a6 (a5 (a5 (aZ (ogm rfl rfl (a7 (cB aA rfl (by first | assumption | exact Own.rd ‹_› | exact Rd.s8 ‹_› hB | exact Own.rd (Own.s8 ‹_› hB))) rfl (a7 (dt rfl rfl) rfl (a6 (ci rfl (by omega) (af (a5 (aZ (ad (a8 (vs := []) rfl (nB _)) rfl ?_)))))))))))))
 rintro _ w3 ⟨hh1, rfl, E1, k3⟩
 obtain ⟨hB, hb1, hb2⟩ := ca k3 hB hb1 hb2
 refine ad (aj bA) rfl ?_
 rintro _ w4 ⟨b3, rfl, eb3, hb3, k4, z3⟩
 have ge_b3 : w.heap.size ≤ b3 := by have := hB.size; omega
 have ne_b1_b3 : b1 ≠ b3 := by have := hb1.lt; omega
 have ne_b2_b3 : b2 ≠ b3 := by have := hb2.lt; omega
 obtain ⟨hB, hb1, hb2⟩ := ca k4 hB hb1 hb2
 clear eb3 z3
 replace hb3 : Bk w4 b3 65 (iv .i64 16 (fun _ => 0)) := by rw [iv, bE]; exact hb3
 refine ae (bh (vs := iv .i64 16 hh1) bA rfl rfl rfl ai hb3 rfl) ?_
 rintro _ w5 ⟨hb4, k5, z4⟩
 replace hb1 := hb1.keep k5 (nm ne_b1_b3)
 replace hb2 := hb2.keep k5 (nm ne_b2_b3)
 replace hB := hB.new k5 (nw ge_b3)
 clear z4
 refine a6 (a5 (aZ (ad (a8 (vs := []) rfl (iQ _)) rfl ?_)))
 rintro _ w6 ⟨hh2, rfl, E2, k6⟩
 obtain ⟨hB, hb1, hb2, hb4⟩ := dG k6 hB hb1 hb2 hb4
 refine ad (aj ct) rfl ?_
 rintro _ w7 ⟨b4, rfl, eb4, hb5, k7, z5⟩
 have ge_b4 : w.heap.size ≤ b4 := by have := hB.size; omega
 have ne_b1_b4 : b1 ≠ b4 := by have := hb1.lt; omega
 have ne_b2_b4 : b2 ≠ b4 := by have := hb2.lt; omega
 have ne_b3_b4 : b3 ≠ b4 := by have := hb4.lt; omega
 obtain ⟨hB, hb1, hb2, hb4⟩ := dG k7 hB hb1 hb2 hb4
 clear eb4 z5
 replace hb5 : Bk w7 b4 67 (iv .i64 64 (fun _ => 0)) := by rw [iv, bE]; exact hb5
 refine ae (bh (vs := iv .i64 64 hh2) ct rfl rfl rfl ai hb5 rfl) ?_
 rintro _ w8 ⟨hb6, k8, z6⟩
 replace hb1 := hb1.keep k8 (nm ne_b1_b4)
 replace hb2 := hb2.keep k8 (nm ne_b2_b4)
 replace hb4 := hb4.keep k8 (nm ne_b3_b4)
 replace hB := hB.new k8 (nw ge_b4)
 clear z6
 refine a6 (a5 (a5 (aZ (oga rfl rfl (a6 (ab (bK (Γ := Int × (Nat → Int)) (fun ⟨i, o⟩ => [(1, v), (2, .pointer (some ⟨b1, 0, none⟩)), (4, .pointer (some ⟨b2, 0, none⟩)), (6, .pointer (some ⟨b3, 0, none⟩)), (7, .pointer (some ⟨b4, 0, none⟩)), (8, .int .i64 i)]) (fun ⟨i, o⟩ W => -1 ≤ i ∧ i ≤ 255 ∧ RPt o (pmul (topB xs (i + 1)) a) ∧ Bk W b1 67 (iv .i64 64 p) ∧ Bk W b2 67 (iv .i64 64 (fun _ => 0)) ∧ Bk W b3 65 (iv .i64 16 hh1) ∧ Bk W b4 67 (iv .i64 64 o) ∧ Keep [] w W) (fun ⟨i, o⟩ => (i + 1).toNat) ⟨255, hh2⟩ ⟨rfl, rfl, rfl, rfl, rfl, rfl, trivial⟩ (⟨by decide, by decide, (by show RPt _ (pmul (topB xs 256) a); rw [qZ hx]; exact E2), hb1, hb2, hb4, hb6, hB⟩) ?_)))))))
 rintro ⟨i, o⟩ w9 ⟨hi0, hi1, hO, hbx2, hbx4, hbx6, hbx7, hB⟩
 refine a9 [(1, v), (2, .pointer (some ⟨b1, 0, none⟩)), (4, .pointer (some ⟨b2, 0, none⟩)), (6, .pointer (some ⟨b3, 0, none⟩)), (7, .pointer (some ⟨b4, 0, none⟩)), (8, .int .i64 i)] ⟨rfl, rfl, rfl, rfl, rfl, rfl, trivial⟩ (a5 (a5 (aZ (ogm rfl rfl (a7 (ii rfl rfl) rfl (a6 (bT rfl (fun hc1 => ?_) (fun hc1 => ?_))))))))
 ·
  refine af (a5 (ab (a5 (aZ (a7 (aa (cs' := iv .i64 64 o) fW ct rfl hbx7 rfl rfl) rfl (a7 (aa (cs' := iv .i64 64 o) fW ct rfl hbx7 rfl rfl) rfl (a7 (aa (cs' := iv .i64 16 hh1) bm bA rfl hbx6 rfl rfl) rfl (ad (a8 (vs := [_, _, _]) rfl (rplusR hO hO (dY ha _) (dY ha _) E1 _)) rfl ?_))))))))
  rintro _ w10 ⟨hh3, rfl, E3, k9⟩
  obtain ⟨hB, hbx2, hbx4, hbx6, hbx7⟩ := dw k9 hB hbx2 hbx4 hbx6 hbx7
  refine ae (bh (vs := iv .i64 64 hh3) ct rfl rfl rfl ai hbx7 rfl) ?_
  rintro _ w11 ⟨hb7, k10, z7⟩
  replace hbx2 := hbx2.keep k10 (nm ne_b1_b4)
  replace hbx4 := hbx4.keep k10 (nm ne_b2_b4)
  replace hbx6 := hbx6.keep k10 (nm ne_b3_b4)
  replace hB := hB.new k10 (nw ge_b4)
  clear z7
  refine a6 (a5 (aZ (ogm rfl rfl (ogm rfl rfl (a7 (es rfl rfl (by omega)) rfl (a7 (bk aA cg rfl (by first | assumption | exact Own.rd ‹_› | exact Rd.s8 ‹_› hB | exact Own.rd (Own.s8 ‹_› hB)) rfl (by omega)) rfl (a7 (dT iI rfl (by first | assumption | exact Own.rd ‹_› | exact Rd.s8 ‹_› hB | exact Own.rd (Own.s8 ‹_› hB)) (by omega)) rfl (ogm rfl rfl (an (e' := i % 8) (lo := 0) (hi := 7) (fQ rfl rfl ⟨by omega, by decide⟩) (rfl) (In.wk (bb _ (by decide)) rfl) rfl (fun z8 h1 r1 => an (e' := z8) (lo := 0) (hi := 7) (eb (by rw [aJ]; rfl) aS rfl) (ap r1 rfl) (r1) rfl (fun z9 h2 r2 => a7 (fC rfl rfl (by have := r2; unfold In at this; constructor <;> (try simp only [IntKind.bits]) <;> omega)) rfl (an (e' := (gb xs (i / 8) / 2 ^ (z9 : Int).toNat) % 2) (lo := 0) (hi := 1) (co rfl rfl) (sY (by have := cG xs (i / 8); exact shr_in this)) (In.wk (bb _ (by decide)) rfl) rfl (fun z10 h3 r3 => a7 (fS rfl rfl) rfl (a6 (a9 [(1, _), (2, _), (4, _), (6, _), (7, _), (8, _), (33, _)] ⟨rfl, rfl, rfl, rfl, rfl, rfl, rfl, trivial⟩ ?_)))))))))))))))
  refine bT rfl (fun hc2 => ?_) (fun hc2 => ?_)
  ·
   refine aZ (a7 (aa (cs' := iv .i64 64 hh3) fW ct rfl hb7 rfl rfl) rfl (a7 (aa (cs' := iv .i64 64 p) fW ct rfl hbx2 rfl rfl) rfl (a7 (aa (cs' := iv .i64 16 hh1) bm bA rfl hbx6 rfl rfl) rfl (ad (a8 (vs := [_, _, _]) rfl (rplusR E3 hp (iU (dY ha _) (dY ha _)) ha E1 _)) rfl ?_))))
   rintro _ w12 ⟨hh4, rfl, E4, k11⟩
   obtain ⟨hB, hbx2, hbx4, hbx6, hb7⟩ := dw k11 hB hbx2 hbx4 hbx6 hb7
   refine ae (bh (vs := iv .i64 64 hh4) ct rfl rfl rfl ai hb7 rfl) ?_
   rintro _ w13 ⟨hb8, k12, z11⟩
   replace hbx2 := hbx2.keep k12 (nm ne_b1_b4)
   replace hbx4 := hbx4.keep k12 (nm ne_b2_b4)
   replace hbx6 := hbx6.keep k12 (nm ne_b3_b4)
   replace hB := hB.new k12 (nw ge_b4)
   clear z11
   refine a6 (bZ (aZ (ogm rfl rfl (a7 (cj rfl rfl (by omega)) rfl (oga rfl rfl (a6 (bM (Γ := Int × (Nat → Int)) ⟨i - 1, hh4⟩ ⟨rfl, rfl, rfl, rfl, rfl, rfl, trivial⟩ (by (try dsimp only); omega) (⟨by omega, by omega, (by rw [show i - 1 + 1 = i by omega, ← pmul_T ha (by omega) (by rw [← sS hx (by omega) hi1 (by have a := h2; have b := h1; unfold Eqn at *; rw [a, b]) h3]; exact decide_eq_true hc2)]; exact E4), hbx2, hbx4, hbx6, hb8, hB⟩))))))))
  ·
   refine af (bZ (aZ (ogm rfl rfl (a7 (cj rfl rfl (by omega)) rfl (oga rfl rfl (a6 (bM (Γ := Int × (Nat → Int)) ⟨i - 1, hh3⟩ ⟨rfl, rfl, rfl, rfl, rfl, rfl, trivial⟩ (by (try dsimp only); omega) (⟨by omega, by omega, (by rw [show i - 1 + 1 = i by omega, ← pmul_F ha (by omega) (by rw [← sS hx (by omega) hi1 (by have a := h2; have b := h1; unfold Eqn at *; rw [a, b]) h3]; exact decide_eq_false hc2)]; exact E3), hbx2, hbx4, hbx6, hb7, hB⟩))))))))
 ·
  refine bF rfl (a5 (aZ (a7 (aa (cs' := iv .i64 64 o) fW ct rfl hbx7 rfl rfl) rfl (ae (bh (vs := iv .i64 64 o) ct rfl rfl rfl ai hbx4 rfl) ?_))))
  rintro _ w14 ⟨hb9, k13, z12⟩
  replace hB := hB.new k13 (nw ge_b2)
  clear z12
  refine oga rfl rfl (a6 (cS hfin Tryz.results32 rfl (ak fW ct hb9 rfl) rfl ?_))
  exact ⟨o, rfl, (by have e := hO; rw [show i + 1 = 0 by omega, oy] at e; exact e), hB⟩
attribute [local irreducible] encB
theorem kW (p : Nat → Int) (X1 Y1 Z1 : Fp) (hpX : RN (atN p 0) X1) (hpY : RN (atN p 16) Y1) (hpZ : RN (atN p 32) Z1) (w : World) : Rets Tryz.prog 35 [.agg (iv .i64 64 p).toArray] w (fun v w' => OwnB w' w.heap.size v (encB (X1 * inv Z1) (Y1 * inv Z1)) ∧ Keep [] w w') := by
 have hB : Keep [] w w := Keep.refl _ _
 refine ac Tryz.func35 rfl (by decide) Tryz.ntmps35 rfl (fun fin _ hfin => a5 (aZ (ad (bc (cs := iv .i64 64 p) rfl rfl) rfl ?_)))
 rintro _ w1 ⟨b1, rfl, eb1, hb1, k1, z1⟩
 replace hB := hB.trans k1
 clear eb1 z1
 refine oga rfl rfl (a6 (a5 (aZ (a7 (ax 32 aQ rfl bA (by decide) rfl rfl) rfl (a7 (dl bm bA rfl hb1 (by first | omega | (unfold In at *; omega))) rfl (ad (a8 (vs := [_]) rfl (ei _ _ hpZ _)) rfl ?_))))))
 rintro _ w2 ⟨hh1, rfl, E1, k2⟩
 obtain ⟨hB, hb1⟩ := bN k2 hB hb1
 refine ad (aj bA) rfl ?_
 rintro _ w3 ⟨b2, rfl, eb2, hb2, k3, z2⟩
 have ge_b2 : w.heap.size ≤ b2 := by have := hB.size; omega
 have ne_b1_b2 : b1 ≠ b2 := by have := hb1.lt; omega
 obtain ⟨hB, hb1⟩ := bN k3 hB hb1
 clear eb2 z2
 replace hb2 : Bk w3 b2 65 (iv .i64 16 (fun _ => 0)) := by rw [iv, bE]; exact hb2
 refine ae (bh (vs := iv .i64 16 hh1) bA rfl rfl rfl ai hb2 rfl) ?_
 rintro _ w4 ⟨hb3, k4, z3⟩
 replace hb1 := hb1.keep k4 (nm ne_b1_b2)
 replace hB := hB.new k4 (nw ge_b2)
 clear z3
 refine a6 (a5 (aZ (a7 (ax 0 aQ rfl bA (by decide) rfl rfl) rfl (a7 (dl bm bA rfl hb1 (by first | omega | (unfold In at *; omega))) rfl (a7 (aa (cs' := iv .i64 16 hh1) bm bA rfl hb3 rfl rfl) rfl (ad (a8 (vs := [_, _]) rfl (br _ _ _ _ hpX E1 _)) rfl ?_))))))
 rintro _ w5 ⟨hh2, rfl, E2, k5⟩
 obtain ⟨hB, hb1, hb3⟩ := ca k5 hB hb1 hb3
 refine ad (a8 (vs := [_]) rfl (eG _ _ E2 _)) rfl ?_
 rintro v1 w6 ⟨o1, k6⟩
 obtain ⟨hB, hb1, hb3⟩ := ca k6 hB hb1 hb3
 refine oga rfl rfl (a6 (a9 [(1, _), (3, _), (4, _)] ⟨rfl, rfl, rfl, trivial⟩ (a5 (aZ (a7 (ax 16 aQ rfl bA (by decide) rfl rfl) rfl (a7 (dl bm bA rfl hb1 (by first | omega | (unfold In at *; omega))) rfl (a7 (aa (cs' := iv .i64 16 hh1) bm bA rfl hb3 rfl rfl) rfl (ad (a8 (vs := [_, _]) rfl (br _ _ _ _ hpY E1 _)) rfl ?_))))))))
 rintro _ w7 ⟨hh3, rfl, E3, k7⟩
 replace o1 := o1.s8 k7
 replace hB := hB.trans k7
 refine ad (a8 (vs := [_]) rfl (eG _ _ E3 _)) rfl ?_
 rintro v2 w8 ⟨o2, k8⟩
 have gl_o2 := hB.size
 replace o1 := o1.s8 k8
 replace hB := hB.trans k8
 refine oga rfl rfl (a6 (a5 (cJ 10 mixed (by decide +kernel) (fun w9 k9 => ?_))))
 replace o1 := o1.s8 k9
 replace o2 := o2.s8 k9
 replace hB := hB.trans k9
 refine ao (bY rfl) rfl (ao (bY rfl) rfl (ao (bk aA cg rfl o2.rd rfl (by rw [bJ]; decide)) rfl (ao (dT iI rfl (Own.rd o2) (by rw [bJ]; decide)) rfl (ao (bY rfl) rfl (ao (bk aA cg rfl o1.rd rfl (by rw [bJ]; decide)) rfl (ao (dT iI rfl (Own.rd o1) (by rw [bJ]; decide)) rfl (ao (co rfl rfl) rfl (ao (rh (m := 128) rfl rfl (by decide) (by decide)) rfl (ao (ek rfl rfl) rfl (cV (a7 (bk aA cg rfl o2.rd rfl (by rw [bJ]; decide)) rfl ?_)))))))))))
 refine ae (eY (u := .int .u8 _) cg rfl rfl rfl o2 (by rw [bw, bJ]; decide)) ?_
 rintro _ w99 ⟨ow2, k99, z99⟩
 replace hB := hB.new k99 (fun x hx => .inl (Nat.le_trans gl_o2 (o2.blk x hx).1))
 rw [iG (fz (k := .u8) rfl rfl), sX (cG _ _)] at ow2
 refine a6 (a9 [(5, _)] ⟨rfl, trivial⟩ (a5 (aZ (ogm rfl rfl (oga rfl rfl (a6 (bG hfin Tryz.results35 rfl ?_)))))))
 exact ⟨(by unfold OwnB encB; rw [List.length_set]; exact ow2.lo gl_o2), hB⟩
theorem rencodeR {p : Nat → Int} {a : Pt} (hp : RPt p a) (w : World) : Rets Tryz.prog 35 [.agg (iv .i64 64 p).toArray] w (fun v w' => OwnB w' w.heap.size v (encB a.1 a.2) ∧ Keep [] w w') := by
  obtain ⟨X1, Y1, Z1, T1, r1, a1, a2, a3, a4⟩ := hp
  have h := kW p _ _ _ a1 a2 a3 w
  rw [(rep_x r1).1, (rep_x r1).2] at h
  exact h
end Go.Proofs.YtllmbkmghmmhfaaGreatDoor.W
namespace Go.Proofs.YtllmbkmghmmhfaaGreatDoor.W
open Go Go.Eng Go.Byt
open Go.Fld Go.Ed
attribute [local irreducible] encB
theorem j9 (y : Fp) : decU y = y * y - 1 := by unfold decU; rw [iX]
theorem i0 (y : Fp) : decV y = d * (y * y) + 1 := by unfold decV; rw [iX]
theorem nA {xs : List UInt8} {z : Int} {c : Bool} (hz : Eqn z (gb xs 31 / 128)) (h : (!rootOk (decY xs * decY xs - 1) (d * (decY xs * decY xs) + 1) || (decide (z = 1) && decide (rootF (decY xs * decY xs - 1) (d * (decY xs * decY xs) + 1) = 0))) = c) :
   (!rootOk (decU (decY xs)) (decV (decY xs)) || (decOdd xs && decide (rootF (decU (decY xs)) (decV (decY xs)) = 0))) = c := by
 unfold Eqn at hz
 rw [j9, i0]; unfold decOdd; rw [← hz]; exact h
theorem rdec_xT {xs : List UInt8} {z : Int} (hz : Eqn z (gb xs 31 / 128)) (h : z = 1) : decX xs = 0 - rootF (decY xs * decY xs - 1) (d * (decY xs * decY xs) + 1) := by
 unfold Eqn at hz
 unfold decX; rw [if_pos (by unfold decOdd; rw [← hz]; exact decide_eq_true h), j9, i0]
theorem rdec_xF {xs : List UInt8} {z : Int} (hz : Eqn z (gb xs 31 / 128)) (h : ¬ z = 1) : decX xs = rootF (decY xs * decY xs - 1) (d * (decY xs * decY xs) + 1) := by
 unfold Eqn at hz
 unfold decX; rw [if_neg (by unfold decOdd; rw [← hz, decide_eq_false h]; decide), j9, i0]
theorem ge (v : Value) (xs : List UInt8) (w : World) (hv : RdB w v xs) (hx : xs.length = 32) : Rets Tryz.prog 30 [v] w (fun u w' => ∃ p, u = .tuple #[.agg (iv .i64 64 p).toArray, .int .i64 (decE xs)] ∧ (decE xs = 0 → RPt p (decX xs, decY xs)) ∧ Keep [] w w') := by
  have hB : Keep [] w w := Keep.refl _ _
  refine ac Tryz.func30 rfl (by decide) Tryz.ntmps30 rfl (fun fin _ hfin => a5 (aZ (ad (aj ct) rfl ?_)))
  rintro _ w1 ⟨b1, rfl, eb1, hb1, k1, z1⟩
  have ge_b1 : w.heap.size ≤ b1 := by have := hB.size; omega
  replace hB := hB.trans k1
  clear eb1 z1
  replace hb1 : Bk w1 b1 67 (iv .i64 64 (fun _ => 0)) := by rw [iv, bE]; exact hb1
  refine oga rfl rfl (a6 (a5 (a5 (aZ (ogm rfl rfl (a7 (cB aA rfl (by first | assumption | exact Own.rd (by assumption) | exact Rd.s8 (by assumption) hB | exact Own.rd (Own.s8 (by assumption) hB))) rfl (a7 (dt rfl rfl) rfl (a6 ?_))))))))
  refine ci rfl (by omega) (af (a5 (aZ (ogm rfl rfl (a7 (bk aA cg rfl (by first | assumption | exact Own.rd (by assumption) | exact Rd.s8 (by assumption) hB | exact Own.rd (Own.s8 (by assumption) hB)) rfl (by omega)) rfl (a7 (dT iI rfl (by first | assumption | exact Own.rd (by assumption) | exact Rd.s8 (by assumption) hB | exact Own.rd (Own.s8 (by assumption) hB)) (by omega)) rfl (an (e' := (gb xs (31)) / 128) (lo := 0) (hi := 1) (cI (m := 128) rfl rfl (by decide) rfl) (rfl) (In.wk (bl (cG xs (31)) (by decide)) rfl) rfl (fun z2 h1 r1 => oga rfl rfl ?_))))))))
  refine a6 (a5 (aZ ?_))
  have gl_oa := hB.size
  have lt_b1 := hb1.lt
  refine ad (sI aA cg rfl) rfl ?_
  rintro _ wg ⟨g, rfl, hge, hg0, kg⟩
  obtain ⟨hB, hb1⟩ := bN kg hB hb1
  refine ogm rfl rfl (ad (n0 (lo := w1.heap.size) aA cg rfl rfl rfl hg0 (hge ▸ Nat.le_refl _) rfl (hv.s8 hB) (by omega)) rfl ?_)
  rintro va wa ⟨oa, ka⟩
  obtain ⟨hB, hb1⟩ := bN ka hB hb1
  have sb_b1_oa := fun x hx => (show x ≠ b1 from by have h1 := (oa.blk x hx).1; omega)
  refine oga rfl rfl (a6 (a9 [(2, _), (4, _), (5, _)] ⟨rfl, rfl, rfl, trivial⟩ (a5 (aZ (ogm rfl rfl (ogm rfl rfl (a7 (bk aA cg rfl oa.rd rfl (by omega)) rfl (a7 (dT iI rfl (Own.rd oa) (by omega)) rfl ?_))))))))
  refine a7 (co rfl rfl) rfl (a7 (bk aA cg rfl oa.rd rfl (by omega)) rfl (ae (eY (u := .int .u8 _) cg rfl rfl rfl oa (by rw [bw, hx]; decide)) ?_))
  rintro _ w99 ⟨ow2, k99, z99⟩
  replace hB := hB.new k99 (fun x hx => .inl (Nat.le_trans gl_oa (oa.blk x hx).1))
  replace ow2 : OwnB w99 w.heap.size va (decLow xs) := by unfold OwnB decLow; rw [List.length_set, ← iG (lO (k := .u8) rfl _ _ _), ← and127 (cG xs 31)]; exact ow2.lo gl_oa
  replace hb1 := hb1.keep k99 (fun hm => sb_b1_oa _ hm rfl)
  refine a6 (a5 (aZ (ogm rfl rfl (ad (a8 (vs := [_]) rfl (pR _ (decLow xs) _ ow2.rd (ja xs hx))) rfl ?_))))
  rintro _ w2 ⟨hh1, rfl, E1, k2⟩
  replace hb1 := hb1.s8 k2
  replace ow2 := ow2.s8 k2
  replace hB := hB.trans k2
  refine ad (aj bA) rfl ?_
  rintro _ w3 ⟨b2, rfl, eb2, hb2, k3, z3⟩
  have ge_b2 : w.heap.size ≤ b2 := by have := hB.size; omega
  have ne_b1_b2 : b1 ≠ b2 := by have := hb1.lt; omega
  have sb_b2_ow2 := fun x hx => (show x ≠ b2 from by have := (ow2.blk x hx).2; omega)
  replace hb1 := hb1.s8 k3
  replace ow2 := ow2.s8 k3
  replace hB := hB.trans k3
  clear eb2 z3
  replace hb2 : Bk w3 b2 65 (iv .i64 16 (fun _ => 0)) := by rw [iv, bE]; exact hb2
  refine ae (bh (vs := iv .i64 16 hh1) bA rfl rfl rfl ai hb2 rfl) ?_
  rintro _ w4 ⟨hb3, k4, z4⟩
  replace hb1 := hb1.keep k4 (nm ne_b1_b2)
  replace ow2 := ow2.keep k4 (fun x hx hm => sb_b2_ow2 x hx (List.mem_singleton.1 hm))
  replace hB := hB.new k4 (nw ge_b2)
  clear z4
  refine a6 (a5 (a5 (bf 6 [0, 3, 4, 1, 2, 5] [1] [] mixed [(6, _), (5, _), (2, _), (4, _)] ⟨rfl, rfl, rfl, rfl, trivial⟩ (by decide +kernel) rfl (fun w5 k5 => ?_))))
  replace hb1 := hb1.s8 k5
  replace ow2 := ow2.s8 k5
  obtain ⟨hB, hb3⟩ := bN k5 hB hb3
  refine am 6 rfl rfl rfl rfl (fun W' kk => aa (cs' := iv .i64 16 hh1) bm bA rfl (Bk.s8 hb3 kk) rfl rfl) (bL 5 rfl rfl rfl rfl rfl (am 33 rfl rfl rfl rfl (fun W' kk => gC aA aH aT rfl (ow2.s8 kk).rd) (bq [(30, _)] rfl rfl ⟨rfl, trivial⟩ rfl (a8 (vs := [_]) rfl (eG _ _ E1 _)) ?_)))
  rintro v1 w6 ⟨o1, k6⟩
  refine ⟨k6, ?_⟩
  replace hb1 := hb1.s8 k6
  replace ow2 := ow2.s8 k6
  obtain ⟨hB, hb3⟩ := bN k6 hB hb3
  refine am 31 rfl rfl rfl rfl (fun W' kk => gC aA aH aT rfl (o1.s8 kk).rd) (cF 32 34 rfl rfl rfl rfl rfl (fun W' kk => g_nes rfl rfl) (bz (a6 (bT rfl (fun hc1 => ?_) (fun hc1 => ?_)))))
  · -- yes
    refine a5 (aZ (ad (a8 (vs := []) rfl (iQ _)) rfl ?_))
    rintro _ w7 ⟨hh2, rfl, E2, k7⟩
    replace hb1 := hb1.s8 k7
    replace ow2 := ow2.s8 k7
    obtain ⟨hB, hb3⟩ := bN k7 hB hb3
    refine ae (bh (vs := iv .i64 64 hh2) ct rfl rfl rfl ai hb1 rfl) ?_
    rintro _ w8 ⟨hb4, k8, z5⟩
    replace ow2 := ow2.keep k8 (fun x hx hm => sb_b1_oa x hx (List.mem_singleton.1 hm))
    replace hb3 := hb3.keep k8 (nm (Ne.symm ne_b1_b2))
    replace hB := hB.new k8 (nw ge_b1)
    clear z5
    refine oga rfl rfl (a6 (a9 [(2, _), (3, _)] ⟨rfl, rfl, trivial⟩ (cS hfin Tryz.results30 rfl (ak fW ct hb4 rfl) rfl ?_)))
    have he := sC hx hc1
    exact ⟨_, by rw [he], fun h => by rw [he] at h; exact absurd h (by decide), hB⟩
  · -- no
    refine af (a5 (aZ (ad (a8 (vs := [_]) rfl (cx 1 (by decide) _)) rfl ?_)))
    rintro _ w9 ⟨hh3, rfl, E3, C1, k9⟩
    replace hb1 := hb1.s8 k9
    replace ow2 := ow2.s8 k9
    obtain ⟨hB, hb3⟩ := bN k9 hB hb3
    replace E3 : RN hh3 1 := iX ▸ E3
    refine ad (aj bA) rfl ?_
    rintro _ w10 ⟨b3, rfl, eb3, hb5, k10, z6⟩
    have ge_b3 : w.heap.size ≤ b3 := by have := hB.size; omega
    have ne_b1_b3 : b1 ≠ b3 := by have := hb1.lt; omega
    have sb_b3_ow2 := fun x hx => (show x ≠ b3 from by have := (ow2.blk x hx).2; omega)
    have ne_b2_b3 : b2 ≠ b3 := by have := hb3.lt; omega
    replace hb1 := hb1.s8 k10
    replace ow2 := ow2.s8 k10
    obtain ⟨hB, hb3⟩ := bN k10 hB hb3
    clear eb3 z6
    replace hb5 : Bk w10 b3 65 (iv .i64 16 (fun _ => 0)) := by rw [iv, bE]; exact hb5
    refine ae (bh (vs := iv .i64 16 hh3) bA rfl rfl rfl ai hb5 rfl) ?_
    rintro _ w11 ⟨hb6, k11, z7⟩
    replace hb1 := hb1.keep k11 (nm ne_b1_b3)
    replace ow2 := ow2.keep k11 (fun x hx hm => sb_b3_ow2 x hx (List.mem_singleton.1 hm))
    replace hb3 := hb3.keep k11 (nm ne_b2_b3)
    replace hB := hB.new k11 (nw ge_b3)
    clear z7
    refine a6 (a5 (aZ (a7 (aa (cs' := iv .i64 16 hh1) bm bA rfl hb3 rfl rfl) rfl (a7 (aa (cs' := iv .i64 16 hh1) bm bA rfl hb3 rfl rfl) rfl (ad (a8 (vs := [_, _]) rfl (br _ _ _ _ E1 E1 _)) rfl ?_)))))
    rintro _ w12 ⟨hh4, rfl, E4, k12⟩
    replace hb1 := hb1.s8 k12
    replace ow2 := ow2.s8 k12
    obtain ⟨hB, hb3, hb6⟩ := ca k12 hB hb3 hb6
    refine ad (aj bA) rfl ?_
    rintro _ w13 ⟨b4, rfl, eb4, hb7, k13, z8⟩
    have ge_b4 : w.heap.size ≤ b4 := by have := hB.size; omega
    have ne_b1_b4 : b1 ≠ b4 := by have := hb1.lt; omega
    have sb_b4_ow2 := fun x hx => (show x ≠ b4 from by have := (ow2.blk x hx).2; omega)
    have ne_b2_b4 : b2 ≠ b4 := by have := hb3.lt; omega
    have ne_b3_b4 : b3 ≠ b4 := by have := hb6.lt; omega
    replace hb1 := hb1.s8 k13
    replace ow2 := ow2.s8 k13
    obtain ⟨hB, hb3, hb6⟩ := ca k13 hB hb3 hb6
    clear eb4 z8
    replace hb7 : Bk w13 b4 65 (iv .i64 16 (fun _ => 0)) := by rw [iv, bE]; exact hb7
    refine ae (bh (vs := iv .i64 16 hh4) bA rfl rfl rfl ai hb7 rfl) ?_
    rintro _ w14 ⟨hb8, k14, z9⟩
    replace hb1 := hb1.keep k14 (nm ne_b1_b4)
    replace ow2 := ow2.keep k14 (fun x hx hm => sb_b4_ow2 x hx (List.mem_singleton.1 hm))
    replace hb3 := hb3.keep k14 (nm ne_b2_b4)
    replace hb6 := hb6.keep k14 (nm ne_b3_b4)
    replace hB := hB.new k14 (nw ge_b4)
    clear z9
    refine a6 (a9 [(6, _), (2, _), (4, _), (7, _), (8, _)] ⟨rfl, rfl, rfl, rfl, rfl, trivial⟩ (a5 ?_))
    have gs1 := hB.size
    have lt1 := hb1.lt
    have lt2 := fun x hx => (ow2.blk x hx).2
    have lt3 := hb3.lt
    refine fv 13 [0, 1, 4, 6, 2, 3, 5, 7, 8, 9, 10, 11] [2, 3, 5, 7, 8] [] [(12, 65, List.replicate 16 (.int .i64 0))] (x := 11) rfl mixed [(8, _), (7, _), (6, _), (2, _), (4, _)] ⟨rfl, rfl, rfl, rfl, rfl, trivial⟩ (by decide +kernel) (by decide) (by decide) ?_ (fun x hx => by cases hx) rfl (fun w15 k15 => ?_)
    · simp only [List.forall_mem_cons]; exact ⟨⟨_, _, _, _, _, _, rfl, bA⟩, fun q hq => by cases hq⟩
    replace hb1 := hb1.s8 k15
    replace ow2 := ow2.s8 k15
    obtain ⟨hB, hb3, hb6, hb8⟩ := dG k15 hB hb3 hb6 hb8
    refine al 8 rfl rfl rfl rfl (fun W' kk => aa (cs' := iv .i64 16 hh4) bm bA rfl (Bk.s8 hb8 kk) rfl rfl) (al 7 rfl rfl rfl rfl (fun W' kk => aa (cs' := iv .i64 16 hh3) bm bA rfl (Bk.s8 hb6 kk) rfl rfl) (al 8 rfl rfl rfl rfl (fun W' kk => aa (cs' := iv .i64 16 hh4) bm bA rfl (Bk.s8 hb8 kk) rfl rfl) (al 7 rfl rfl rfl rfl (fun W' kk => aa (cs' := iv .i64 16 hh3) bm bA rfl (Bk.s8 hb6 kk) rfl rfl) (bo [(42, _), (43, _)] rfl rfl ⟨rfl, rfl, trivial⟩ rfl (fun w17 k17 => ?_)))))
    replace hb1 := hb1.s8 k17
    replace ow2 := ow2.s8 k17
    obtain ⟨hB, hb3⟩ := bN k17 hB hb3
    refine (a8 (vs := [_, _]) rfl (eF _ _ _ _ E4 E3 _)).mono ?_
    rintro _ w16 ⟨hh5, rfl, E5, k16⟩
    refine ⟨k16, nox, ?_⟩
    replace hb1 := hb1.s8 k16
    replace ow2 := ow2.s8 k16
    obtain ⟨hB, hb3⟩ := bN k16 hB hb3
    refine bo [] rfl rfl trivial rfl (fun w19 k19 => ?_)
    replace hb1 := hb1.s8 k19
    replace ow2 := ow2.s8 k19
    obtain ⟨hB, hb3⟩ := bN k19 hB hb3
    refine (a8 (vs := []) rfl (nB _)).mono ?_
    rintro _ w18 ⟨hh6, rfl, E6, k18⟩
    refine ⟨k18, nox, ?_⟩
    replace hb1 := hb1.s8 k18
    replace ow2 := ow2.s8 k18
    obtain ⟨hB, hb3⟩ := bN k18 hB hb3
    refine bo [(45, _), (46, _)] rfl rfl ⟨rfl, rfl, trivial⟩ rfl (fun w21 k21 => ?_)
    replace hb1 := hb1.s8 k21
    replace ow2 := ow2.s8 k21
    obtain ⟨hB, hb3⟩ := bN k21 hB hb3
    refine (a8 (vs := [_, _]) rfl (br _ _ _ _ E6 E4 _)).mono ?_
    rintro _ w20 ⟨hh7, rfl, E7, k20⟩
    refine ⟨k20, nox, ?_⟩
    replace hb1 := hb1.s8 k20
    replace ow2 := ow2.s8 k20
    obtain ⟨hB, hb3⟩ := bN k20 hB hb3
    refine bo [(47, _), (48, _)] rfl rfl ⟨rfl, rfl, trivial⟩ rfl (fun w23 k23 => ?_)
    replace hb1 := hb1.s8 k23
    replace ow2 := ow2.s8 k23
    obtain ⟨hB, hb3⟩ := bN k23 hB hb3
    refine (a8 (vs := [_, _]) rfl (fK _ _ _ _ E7 E3 _)).mono ?_
    rintro _ w22 ⟨hh8, rfl, E8, k22⟩
    refine ⟨k22, nox, ?_⟩
    replace hb1 := hb1.s8 k22
    replace ow2 := ow2.s8 k22
    obtain ⟨hB, hb3⟩ := bN k22 hB hb3
    refine bo [(44, _), (49, _)] rfl rfl ⟨rfl, rfl, trivial⟩ rfl (fun w25 k25 => ?_)
    replace hb1 := hb1.s8 k25
    replace ow2 := ow2.s8 k25
    obtain ⟨hB, hb3⟩ := bN k25 hB hb3
    refine (a8 (vs := [_, _]) rfl (ms _ _ _ _ E5 E8 _)).mono ?_
    rintro _ w24 ⟨hh9, rfl, E9, k24⟩
    refine ⟨k24, nox, ?_⟩
    replace hb1 := hb1.s8 k24
    replace ow2 := ow2.s8 k24
    obtain ⟨hB, hb3⟩ := bN k24 hB hb3
    refine bu 50 rfl rfl rfl rfl rfl (al 41 rfl rfl rfl rfl (fun W' kk => bH (vs := [_, _]) rfl rfl) (al 41 rfl rfl rfl rfl (fun W' kk => bH (vs := [_, _]) rfl rfl) (gw (fun w26 k26 => ?_))))
    replace hb1 := hb1.s8 k26
    replace ow2 := ow2.s8 k26
    obtain ⟨hB, hb3⟩ := bN k26 hB hb3
    intro b5 eb5 lb1 hb9 ds1 sp1
    have ge_b5 : w.heap.size ≤ b5 := Nat.le_trans gs1 eb5
    have ne_b1_b5 : b1 ≠ b5 := Nat.ne_of_lt (Nat.lt_of_lt_of_le lt1 eb5)
    have sb_b5_ow2 := fun x hx => (Nat.ne_of_lt (Nat.lt_of_lt_of_le (lt2 x hx) eb5))
    have ne_b2_b5 : b2 ≠ b5 := Nat.ne_of_lt (Nat.lt_of_lt_of_le lt3 eb5)
    replace hb9 : Bk w26 b5 65 (iv .i64 16 (fun _ => 0)) := by rw [iv, bE]; exact hb9
    refine gE (tailx [(9, _), (51, _)] rfl ⟨rfl, rfl, trivial⟩ rfl (bh (vs := iv .i64 16 hh9) bA rfl rfl rfl ai hb9 rfl) ?_)
    rintro _ w27 ⟨hb10, k27, z10⟩
    replace hb1 := hb1.keep k27 (nm ne_b1_b5)
    replace ow2 := ow2.keep k27 (fun x hx hm => sb_b5_ow2 x hx (List.mem_singleton.1 hm))
    replace hb3 := hb3.keep k27 (nm ne_b2_b5)
    replace hB := hB.new k27 (nw ge_b5)
    clear z10
    refine oga rfl rfl (a6 (a9 [(6, _), (2, _), (4, _), (9, _), (10, _)] ⟨rfl, rfl, rfl, rfl, rfl, trivial⟩ (a5 (a5 (bW 11 [0, 1, 2, 3, 4, 5, 6, 7, 8, 9, 10] [7, 8] [] [] mixed [(10, _), (4, _), (9, _), (6, _), (2, _)] ⟨rfl, rfl, rfl, rfl, rfl, trivial⟩ (by decide +kernel) (by decide) (by decide) ?_ (fun x hx => by cases hx) rfl (fun w28 k28 => ?_))))))
    · intro q hq; cases hq
    replace hb1 := hb1.s8 k28
    replace ow2 := ow2.s8 k28
    obtain ⟨hB, hb3, hb10⟩ := ca k28 hB hb3 hb10
    refine bu 10 rfl rfl rfl rfl rfl (al 53 rfl rfl rfl rfl (fun W' kk => mT rfl) (bu 54 rfl rfl rfl rfl rfl (km 55 false rfl (fun c1 hgc1 => eZ [(4, _), (55, _)] [(4, _)] rfl rfl ⟨rfl, rfl, trivial⟩ rfl (dD rfl rfl rfl hgc1) ⟨fE rfl, trivial⟩ (fun hw1 => (fun W' kk => bY rfl)) (eZ [(55, _), (56, _)] [(56, _)] rfl rfl ⟨rfl, rfl, trivial⟩ rfl (dD rfl rfl rfl hgc1) ⟨dJ rfl, trivial⟩ (fun hw2 => (fun W' kk => fS rfl rfl)) (eZ [(55, _), (57, _)] [(57, _)] rfl rfl ⟨rfl, rfl, trivial⟩ rfl (dD rfl rfl rfl hgc1) ⟨dJ rfl, trivial⟩ (fun hw3 => (fun W' kk => bY rfl)) (ip 58 true rfl (fun c2 hgc2 => eZ [(9, _), (58, _)] [(9, _)] rfl rfl ⟨rfl, rfl, trivial⟩ rfl (gW rfl rfl rfl hgc2) ⟨fE rfl, trivial⟩ (fun hw4 => (fun W' kk => aa (cs' := iv .i64 16 hh9) bm bA rfl (Bk.s8 hb10 kk) rfl rfl)) ?_))))))))
    refine fF (V := .agg (iv .i64 16 (fun _ => 0)).toArray) [(58, _)] [] rfl rfl ⟨rfl, trivial⟩ rfl (gW rfl rfl rfl hgc2) trivial rfl (fun W1 kk hw5 => (a8 (vs := [_]) rfl (eN _)).mono (by rintro _ w29 ⟨rfl, k29⟩; exact ⟨rfl, k29⟩)) (fun w30 k30 => ?_)
    replace hb1 := hb1.s8 k30
    replace ow2 := ow2.s8 k30
    obtain ⟨hB, hb3, hb10⟩ := ca k30 hB hb3 hb10
    refine fF (V := .bool (decide ((rootF (((decY xs) * (decY xs)) - 1) ((d * ((decY xs) * (decY xs))) + 1)) = 0))) [(58, _), (59, _), (60, _)] [(59, _), (60, _)] rfl rfl ⟨rfl, rfl, rfl, trivial⟩ rfl (gW rfl rfl rfl hgc2) ⟨dJ rfl, dJ rfl, trivial⟩ rfl (fun W1 kk hw6 => (a8 (vs := [_, _]) rfl (fJ _ _ _ _ E9 gL _)).mono (by rintro _ w31 ⟨rfl, k31⟩; exact ⟨rfl, k31⟩)) (fun w32 k32 => ?_)
    replace hb1 := hb1.s8 k32
    replace ow2 := ow2.s8 k32
    obtain ⟨hB, hb3, hb10⟩ := ca k32 hB hb3 hb10
    refine io (dj := 0) [(55, _), (58, _), (61, _)] rfl rfl ⟨rfl, rfl, rfl, trivial⟩ rfl (dD rfl rfl rfl hgc1) (dJ rfl) rfl hgc2 rfl (cn 55 62 rfl rfl rfl rfl rfl (fun W' kk => fk rfl rfl hgc1) (cC (fun w33 k33 => ?_)))
    replace hb1 := hb1.s8 k33
    replace ow2 := ow2.s8 k33
    obtain ⟨hB, hb3, hb10⟩ := ca k33 hB hb3 hb10
    refine bX (a6 (a9 [(4, _), (9, _), (6, _), (2, _), (63, _)] ⟨rfl, rfl, rfl, rfl, rfl, trivial⟩ (dK rfl (fun hc2 => ?_) (fun hc2 => ?_))))
    · -- yes
      have hd1 := hc2
      try (simp only [Bool.and_eq_true, Bool.or_eq_true, decide_eq_true_eq, Bool.and_eq_false_iff, Bool.or_eq_false_iff, decide_eq_false_iff_not, Bool.not_eq_true', Bool.not_eq_false', Bool.not_eq_true, Bool.not_eq_false, ne_eq, Decidable.not_not] at hd1)
      refine a5 (aZ (ad (a8 (vs := []) rfl (iQ _)) rfl ?_))
      rintro _ w34 ⟨hh10, rfl, E10, k34⟩
      replace hb1 := hb1.s8 k34
      replace ow2 := ow2.s8 k34
      obtain ⟨hB, hb3, hb10⟩ := ca k34 hB hb3 hb10
      refine ae (bh (vs := iv .i64 64 hh10) ct rfl rfl rfl ai hb1 rfl) ?_
      rintro _ w35 ⟨hb11, k35, z11⟩
      replace ow2 := ow2.keep k35 (fun x hx hm => sb_b1_oa x hx (List.mem_singleton.1 hm))
      replace hb3 := hb3.keep k35 (nm (Ne.symm ne_b1_b2))
      replace hb10 := hb10.keep k35 (nm (Ne.symm ne_b1_b5))
      replace hB := hB.new k35 (nw ge_b1)
      clear z11
      refine oga rfl rfl (a6 (cS hfin Tryz.results30 rfl (ak fW ct hb11 rfl) rfl ?_))
      have he := sB (z := 0) hx (not_not_intro (Decidable.of_not_not hc1)) (nA h1 hc2)
      exact ⟨_, by rw [he], fun h => by rw [he] at h; exact absurd h (by decide), hB⟩
    · -- no
      have hd2 := hc2
      try (simp only [Bool.and_eq_true, Bool.or_eq_true, decide_eq_true_eq, Bool.and_eq_false_iff, Bool.or_eq_false_iff, decide_eq_false_iff_not, Bool.not_eq_true', Bool.not_eq_false', Bool.not_eq_true, Bool.not_eq_false, ne_eq, Decidable.not_not] at hd2)
      refine af (a5 (a5 (aZ (ogm rfl rfl (a7 (fS rfl rfl) rfl (a6 (bT rfl (fun hc3 => ?_) (fun hc3 => ?_))))))))
      · -- yes
        refine bf 2 [1, 0] [0] [] mixed [(9, _), (6, _), (2, _)] ⟨rfl, rfl, rfl, trivial⟩ (by decide +kernel) rfl (fun w36 k36 => ?_)
        replace hb1 := hb1.s8 k36
        replace ow2 := ow2.s8 k36
        obtain ⟨hB, hb3, hb10⟩ := ca k36 hB hb3 hb10
        refine am 9 rfl rfl rfl rfl (fun W' kk => aa (cs' := iv .i64 16 hh9) bm bA rfl (Bk.s8 hb10 kk) rfl rfl) (bq [] rfl rfl trivial rfl (a8 (vs := [_]) rfl (eN _)) ?_)
        rintro _ w37 ⟨rfl, k37⟩
        refine ⟨k37, ?_⟩
        replace hb1 := hb1.s8 k37
        replace ow2 := ow2.s8 k37
        obtain ⟨hB, hb3, hb10⟩ := ca k37 hB hb3 hb10
        refine bz (ad (a8 (vs := [_, _]) rfl (eF _ _ _ _ gL E9 _)) rfl ?_)
        rintro _ w38 ⟨hh11, rfl, E11, k38⟩
        replace hb1 := hb1.s8 k38
        replace ow2 := ow2.s8 k38
        obtain ⟨hB, hb3, hb10⟩ := ca k38 hB hb3 hb10
        refine ae (bh (vs := iv .i64 16 hh11) bA rfl rfl rfl ai hb10 rfl) ?_
        rintro _ w39 ⟨hb12, k39, z12⟩
        replace hb1 := hb1.keep k39 (nm ne_b1_b5)
        replace ow2 := ow2.keep k39 (fun x hx hm => sb_b5_ow2 x hx (List.mem_singleton.1 hm))
        replace hb3 := hb3.keep k39 (nm ne_b2_b5)
        replace hB := hB.new k39 (nw ge_b5)
        clear z12
        refine a6 (a5 (aZ (a7 (aa (cs' := iv .i64 16 hh11) bm bA rfl hb12 rfl rfl) rfl (a7 (aa (cs' := iv .i64 16 hh1) bm bA rfl hb3 rfl rfl) rfl (ad (a8 (vs := [_, _]) rfl (kY _ _ _ _ E11 E1 _)) rfl ?_)))))
        rintro _ w40 ⟨hh12, rfl, E12, k40⟩
        replace hb1 := hb1.s8 k40
        replace ow2 := ow2.s8 k40
        obtain ⟨hB, hb3⟩ := bN k40 hB hb3
        refine ae (bh (vs := iv .i64 64 hh12) ct rfl rfl rfl ai hb1 rfl) ?_
        rintro _ w41 ⟨hb13, k41, z13⟩
        replace ow2 := ow2.keep k41 (fun x hx hm => sb_b1_oa x hx (List.mem_singleton.1 hm))
        replace hb3 := hb3.keep k41 (nm (Ne.symm ne_b1_b2))
        replace hB := hB.new k41 (nw ge_b1)
        clear z13
        refine oga rfl rfl (a6 (cS hfin Tryz.results30 rfl (ak fW ct hb13 rfl) rfl ?_))
        have he := lI (z := 0) hx (not_not_intro (Decidable.of_not_not hc1)) (nA h1 hc2)
        exact ⟨_, by rw [he], fun _ => (by rw [rdec_xT h1 hc3]; exact E12), hB⟩
      · -- no
        refine af (a5 (aZ (a7 (aa (cs' := iv .i64 16 hh9) bm bA rfl hb10 rfl rfl) rfl (a7 (aa (cs' := iv .i64 16 hh1) bm bA rfl hb3 rfl rfl) rfl (ad (a8 (vs := [_, _]) rfl (kY _ _ _ _ E9 E1 _)) rfl ?_)))))
        rintro _ w42 ⟨hh13, rfl, E13, k42⟩
        replace hb1 := hb1.s8 k42
        replace ow2 := ow2.s8 k42
        replace hB := hB.trans k42
        refine ae (bh (vs := iv .i64 64 hh13) ct rfl rfl rfl ai hb1 rfl) ?_
        rintro _ w43 ⟨hb14, k43, z14⟩
        replace ow2 := ow2.keep k43 (fun x hx hm => sb_b1_oa x hx (List.mem_singleton.1 hm))
        replace hB := hB.new k43 (nw ge_b1)
        clear z14
        refine oga rfl rfl (a6 (cS hfin Tryz.results30 rfl (ak fW ct hb14 rfl) rfl ?_))
        have he := lI (z := 0) hx (not_not_intro (Decidable.of_not_not hc1)) (nA h1 hc2)
        exact ⟨_, by rw [he], fun _ => (by rw [rdec_xF h1 hc3]; exact E13), hB⟩
theorem kc (v : Value) (w : World) (hv : RdB w v baseB) : Rets Tryz.prog 30 [v] w (fun u w' => ∃ p, u = .tuple #[.agg (iv .i64 64 p).toArray, .int .i64 0] ∧ RPt p basePt ∧ Keep [] w w') :=
  (ge v baseB w hv (by decide)).mono fun r w' ⟨p, e, h, k⟩ => ⟨p, by rw [e, lQ], by have := h lQ; rw [sT, lP] at this; exact this, k⟩
theorem pZ (w : World) : Rets Tryz.prog 40 [] w (fun v w' => ∃ r, v = .agg (iv .i64 64 r).toArray ∧ RPt r basePt ∧ Keep [] w w') := by
 have hB : Keep [] w w := Keep.refl _ _
 refine ac Tryz.func40 rfl (by decide) Tryz.ntmps40 rfl (fun fin _ hfin => a5 (aZ (ad (aj ct) rfl ?_)))
 rintro _ w1 ⟨b1, rfl, eb1, hb1, k1, z1⟩
 have ge_b1 : w.heap.size ≤ b1 := by have := hB.size; omega
 replace hB := hB.trans k1
 clear eb1 z1
 replace hb1 : Bk w1 b1 67 (iv .i64 64 (fun _ => 0)) := by rw [iv, bE]; exact hb1
 refine a6 (a5 (aZ (ad (a8 (vs := [_]) rfl (cx 4 (by decide) _)) rfl ?_)))
 rintro _ w2 ⟨hh1, rfl, E1, C1, k2⟩
 obtain ⟨hB, hb1⟩ := bN k2 hB hb1
 refine ad (a8 (vs := [_]) rfl (cx 5 (by decide) _)) rfl ?_
 rintro _ w3 ⟨hh2, rfl, E2, C2, k3⟩
 obtain ⟨hB, hb1⟩ := bN k3 hB hb1
 refine ad (a8 (vs := [_]) rfl (ei _ _ E2 _)) rfl ?_
 rintro _ w4 ⟨hh3, rfl, E3, k4⟩
 obtain ⟨hB, hb1⟩ := bN k4 hB hb1
 refine ad (a8 (vs := [_, _]) rfl (br _ _ _ _ E1 E3 _)) rfl ?_
 rintro _ w5 ⟨hh4, rfl, E4, k5⟩
 obtain ⟨hB, hb1⟩ := bN k5 hB hb1
 refine ad (aj bA) rfl ?_
 rintro _ w6 ⟨b2, rfl, eb2, hb2, k6, z2⟩
 have ge_b2 : w.heap.size ≤ b2 := by have := hB.size; omega
 have ne_b1_b2 : b1 ≠ b2 := by have := hb1.lt; omega
 obtain ⟨hB, hb1⟩ := bN k6 hB hb1
 clear eb2 z2
 replace hb2 : Bk w6 b2 65 (iv .i64 16 (fun _ => 0)) := by rw [iv, bE]; exact hb2
 refine ae (bh (vs := iv .i64 16 hh4) bA rfl rfl rfl ai hb2 rfl) ?_
 rintro _ w7 ⟨hb3, k7, z3⟩
 replace hb1 := hb1.keep k7 (nm ne_b1_b2)
 replace hB := hB.new k7 (nw ge_b2)
 clear z3
 refine a6 (a5 (aZ (a7 (aa (cs' := iv .i64 16 hh4) bm bA rfl hb3 rfl rfl) rfl (ad (a8 (vs := [_]) rfl (eG _ _ E4 _)) rfl ?_))))
 rintro v1 w8 ⟨o1, k8⟩
 obtain ⟨hB, hb1⟩ := bN k8 hB hb1
 refine ad (a8 (vs := [_]) rfl (kc _ _ (by have e := o1.rd; rw [n8] at e; exact e))) rfl ?_
 rintro _ w9 ⟨hh5, rfl, E5, k9⟩
 obtain ⟨hB, hb1⟩ := bN k9 hB hb1
 refine ogm rfl rfl (a7 (bH (vs := [_, _]) rfl rfl) rfl (a7 (bH (vs := [_, _]) rfl rfl) rfl (ad (aj ct) rfl ?_)))
 rintro _ w10 ⟨b3, rfl, eb3, hb4, k10, z4⟩
 have ge_b3 : w.heap.size ≤ b3 := by have := hB.size; omega
 have ne_b1_b3 : b1 ≠ b3 := by have := hb1.lt; omega
 obtain ⟨hB, hb1⟩ := bN k10 hB hb1
 clear eb3 z4
 replace hb4 : Bk w10 b3 67 (iv .i64 64 (fun _ => 0)) := by rw [iv, bE]; exact hb4
 refine ae (bh (vs := iv .i64 64 hh5) ct rfl rfl rfl ai hb4 rfl) ?_
 rintro _ w11 ⟨hb5, k11, z5⟩
 replace hb1 := hb1.keep k11 (nm ne_b1_b3)
 replace hB := hB.new k11 (nw ge_b3)
 clear z5
 refine oga rfl rfl (a6 (a9 [(0, _), (2, _)] ⟨rfl, rfl, trivial⟩ (a5 (aZ (a7 (aa (cs' := iv .i64 64 hh5) fW ct rfl hb5 rfl rfl) rfl (ae (bh (vs := iv .i64 64 hh5) ct rfl rfl rfl ai hb1 rfl) ?_))))))
 rintro _ w12 ⟨hb6, k12, z6⟩
 replace hB := hB.new k12 (nw ge_b1)
 clear z6
 refine a6 (ba hfin Tryz.results40 rfl (ak fW ct hb6 rfl)  ?_)
 exact ⟨hh5, rfl, E5, hB⟩
end Go.Proofs.YtllmbkmghmmhfaaGreatDoor.W
namespace Go.Proofs.YtllmbkmghmmhfaaGreatDoor.W
open Go Go.Eng Go.Byt
open Go.Fld Go.Ed
def HH (xs : List UInt8) : List UInt8 := Go.Sha.sum Go.Sha.cT Go.Sha.Kl Go.Sha.Hl xs
theorem fI (xs : List UInt8) : (HH xs).length = 64 := by unfold HH Go.Sha.sum Go.Sha.out8; simp only [List.flatMap_cons, List.flatMap_nil, List.length_append, dI, List.length_nil]
def hashB (xs : List UInt8) : List UInt8 := leB (leI (HH xs) % 7237005577332262213973186563042994240857116359379907606001950938285454250989) 32
theorem fP (xs : List UInt8) : (hashB xs).length = 32 := eI _ _
def gB (n : List UInt8) : List UInt8 := encB (pmul (leI n).toNat basePt).1 (pmul (leI n).toNat basePt).2
theorem gD (n : List UInt8) : (gB n).length = 32 := by unfold gB encB; rw [List.length_set, bJ]
attribute [irreducible] gB HH
def skB (seed : List UInt8) : List UInt8 := clampB ((HH seed).take 32)
def pxB (seed : List UInt8) : List UInt8 := (HH seed).drop 32
def pkB (seed : List UInt8) : List UInt8 := gB (skB seed)
theorem n4 (xs : List UInt8) : (clampB xs).length = xs.length := by unfold clampB; rw [List.length_set, List.length_set]
theorem l3 (xs : List UInt8) : ((HH xs).take 32).length = 32 := by rw [List.length_take, fI]; rfl
theorem nr (xs : List UInt8) : (skB xs).length = 32 := by unfold skB; rw [n4, l3]
theorem nu (xs : List UInt8) : (pxB xs).length = 32 := by unfold pxB; rw [List.length_drop, fI]
theorem ny (xs : List UInt8) : (pkB xs).length = 32 := gD _
def rB (seed text : List UInt8) : List UInt8 := hashB (pxB seed ++ text)
def sgS (seed text : List UInt8) : List UInt8 := leB ((leI (rB seed text) + leI (hashB (gB (rB seed text) ++ pkB seed ++ text)) * leI (skB seed)) % 7237005577332262213973186563042994240857116359379907606001950938285454250989) 32
def sgB (seed text : List UInt8) : List UInt8 := gB (rB seed text) ++ sgS seed text
def dP (xs : List UInt8) : Pt := (decX xs, decY xs)
def verP (pk tx sg : List UInt8) : Pt := padd (dP (sg.take 32)) (pmul (leI (hashB (sg.take 32 ++ pk ++ tx))).toNat (dP pk))
def verE (pk tx sg : List UInt8) : Int := if pk.length ≠ 32 ∨ sg.length ≠ 64 then 1 else if decE pk ≠ 0 then 30 else if decE (sg.take 32) ≠ 0 ∨ ¬ leI (sg.drop 32) < 7237005577332262213973186563042994240857116359379907606001950938285454250989 then 31 else if gB (sg.drop 32) = encB (verP pk tx sg).1 (verP pk tx sg).2 then 0 else 31
theorem jW {w : World} {lo : Nat} {h : Value} {xs : List UInt8} (o : OwnB w lo h (HH xs)) : RdB w (cut h 32 64 1) (pxB xs) := by
 have := (show RdB w h (HH xs) from o.rd).cutB (l := 32) (hi := 64) (by decide) (by rw [fI]; decide)
 rwa [List.take_of_length_le (by rw [List.length_drop, fI]; decide)] at this
theorem hh_take {w : World} {lo : Nat} {h : Value} {xs : List UInt8} (o : OwnB w lo h (HH xs)) : RdB w (cut h 0 32 1) ((HH xs).take 32) := by
 have := (show RdB w h (HH xs) from o.rd).cutB (l := 0) (hi := 32) (by decide) (by rw [fI]; decide)
 rwa [List.drop_zero] at this
theorem hh_cap {w : World} {lo : Nat} {h : Value} {xs : List UInt8} (o : OwnB w lo h (HH xs)) : 64 ≤ vcap h := by have := o.rd.vcap.1; rwa [fI] at this
theorem mO (v : Value) (xs : List UInt8) (w : World) (hT : Tabs w) (hv : RdB w v xs) (hx : xs.length ≤ 140737488354000) : Rets Tryz.prog 36 [v] w (fun r w' => OwnB w' w.heap.size r (HH xs) ∧ Keep [] w w') := by unfold HH; exact mg v xs w hT hv hx
theorem pP (v : Value) (xs : List UInt8) (w : World) (hv : RdB w v xs) (hx : xs.length ≤ 140737488354000) : Rets Tryz.prog 38 [v] w (fun r w' => OwnB w' w.heap.size r (HH xs) ∧ Keep [] w w') := by unfold HH; exact lj v xs w hv hx
theorem lf (v : Value) (ls : List (List UInt8)) (lo : Nat) (w : World) (h : SlL w lo 22 v ls) (hsum : ls.flatten.length ≤ 140737488355328) : Rets Tryz.prog 42 [v] w (fun u w' => OwnB w' w.heap.size u ls.flatten ∧ Keep [] w w') := by
  obtain ⟨us, h1, h2, h3⟩ := h
  replace h3 := h3.rd
  rw [← h1] at h3
  exact n3 v us ls w h3 h2 hsum
theorem i6 (v : Value) (ls : List (List UInt8)) (lo : Nat) (w : World) (hT : Tabs w) (hl : SlL w lo 22 v ls) (hx : ls.flatten.length ≤ 140737488354000) : Rets Tryz.prog 19 [v] w (fun r w' => OwnB w' w.heap.size r (hashB ls.flatten) ∧ Keep [] w w') := by
 have hB : Keep [] w w := Keep.refl _ _
 refine ac Tryz.func19 rfl (by decide) Tryz.ntmps19 rfl (fun fin _ hfin => a5 (aZ (oga rfl rfl (a6 (a5 (aZ (ogm rfl rfl (ad (a8 (vs := [_]) rfl (lf _ ls _ _ hl (by omega))) rfl ?_))))))))
 rintro v1 w1 ⟨o1, k1⟩
 replace hl := hl.s8 k1
 replace hB := hB.trans k1
 refine ad (a8 (vs := [_]) rfl (mO _ _ _ (hT.s8 hB) o1.rd hx)) rfl ?_
 rintro v2 w2 ⟨o2, k2⟩
 replace hl := hl.s8 k2
 replace hB := hB.trans k2
 refine ad (a8 (vs := [_]) rfl (l6 _ _ _ o2.rd (by rw [fI]; decide))) rfl ?_
 rintro _ w3 ⟨v3, rfl, o3, k3⟩
 have gl_o3 := hB.size
 replace hl := hl.s8 k3
 replace hB := hB.trans k3
 refine ogm rfl rfl (a7 (bH (vs := [_, _]) rfl rfl) rfl (a7 (bH (vs := [_, _]) rfl rfl) rfl (oga rfl rfl (oga rfl rfl (a6 (a9 [(3, _)] ⟨rfl, trivial⟩ (a5 (aZ (ogm rfl rfl (oga rfl rfl (a6 (bG hfin Tryz.results19 rfl ?_))))))))))))
 exact ⟨o3.lo gl_o3, hB⟩
theorem g9 (v : Value) (xs : List UInt8) (w : World) (hv : RdB w v xs) (hx : xs.length = 32) : Rets Tryz.prog 20 [v] w (fun r w' => ∃ q, r = .agg (iv .u64 20 q).toArray ∧ PtR q (pmul (leI xs).toNat basePt) ∧ Keep [] w w') := by
 have hB : Keep [] w w := Keep.refl _ _
 refine ac Tryz.func20 rfl (by decide) Tryz.ntmps20 rfl (fun fin _ hfin => a5 (aZ (ad (aj bx) rfl ?_)))
 rintro _ w1 ⟨b1, rfl, eb1, hb1, k1, z1⟩
 have ge_b1 : w.heap.size ≤ b1 := by have := hB.size; omega
 replace hB := hB.trans k1
 clear eb1 z1
 replace hb1 : Bk w1 b1 53 (iv .u64 20 (fun _ => 0)) := by rw [iv, bE]; exact hb1
 refine a6 (a5 (aZ (ad (a8 (vs := []) rfl (qN _)) rfl ?_)))
 rintro _ w2 ⟨hh1, rfl, E1, k2⟩
 obtain ⟨hB, hb1⟩ := bN k2 hB hb1
 refine ogm rfl rfl (ad (a8 (vs := [_, _]) rfl (kR _ basePt _ xs E1 du _ (hv.s8 hB) hx)) rfl ?_)
 rintro _ w3 ⟨hh2, rfl, E2, k3⟩
 obtain ⟨hB, hb1⟩ := bN k3 hB hb1
 refine ogm rfl rfl (a7 (bH (vs := [_, _]) rfl rfl) rfl (a7 (bH (vs := [_, _]) rfl rfl) rfl (ad (aj bx) rfl ?_)))
 rintro _ w4 ⟨b2, rfl, eb2, hb2, k4, z2⟩
 have ge_b2 : w.heap.size ≤ b2 := by have := hB.size; omega
 have ne_b1_b2 : b1 ≠ b2 := by have := hb1.lt; omega
 obtain ⟨hB, hb1⟩ := bN k4 hB hb1
 clear eb2 z2
 replace hb2 : Bk w4 b2 53 (iv .u64 20 (fun _ => 0)) := by rw [iv, bE]; exact hb2
 refine ae (bh (vs := iv .u64 20 hh2) bx rfl rfl rfl ai hb2 rfl) ?_
 rintro _ w5 ⟨hb3, k5, z3⟩
 replace hb1 := hb1.keep k5 (nm ne_b1_b2)
 replace hB := hB.new k5 (nw ge_b2)
 clear z3
 refine oga rfl rfl (a6 (a5 (aZ (a7 (aa (cs' := iv .u64 20 hh2) dd bx rfl hb3 rfl rfl) rfl (ae (bh (vs := iv .u64 20 hh2) bx rfl rfl rfl ai hb1 rfl) ?_)))))
 rintro _ w6 ⟨hb4, k6, z4⟩
 replace hB := hB.new k6 (nw ge_b1)
 clear z4
 refine a6 (a9 [(2, _)] ⟨rfl, trivial⟩ (ba hfin Tryz.results20 rfl (ak dd bx hb4 rfl)  ?_))
 exact ⟨_, rfl, E2, hB⟩
theorem lc {q : Nat → Int} {xs : List UInt8} (h : PtR q (pmul (leI xs).toNat basePt)) (w : World) : Rets Tryz.prog 21 [.agg (iv .u64 20 q).toArray] w (fun r w' => OwnB w' w.heap.size r (gB xs) ∧ Keep [] w w') := by unfold gB; exact PencodeR h w
theorem qv {q : Nat → Int} {xs : List UInt8} (h : RPt q (pmul (leI xs).toNat basePt)) (w : World) : Rets Tryz.prog 35 [.agg (iv .i64 64 q).toArray] w (fun r w' => OwnB w' w.heap.size r (gB xs) ∧ Keep [] w w') := by unfold gB; exact rencodeR h w
theorem mv (v : Value) (xs : List UInt8) (w : World) (hv : RdB w v xs) (hx : xs.length = 32) : Rets Tryz.prog 18 [v] w (fun r w' => OwnB w' w.heap.size r (gB xs) ∧ Keep [] w w') := by
 have hB : Keep [] w w := Keep.refl _ _
 refine ac Tryz.func18 rfl (by decide) Tryz.ntmps18 rfl (fun fin _ hfin => a5 (aZ (oga rfl rfl (a6 (a5 (aZ (ad (a8 (vs := []) rfl (pZ _)) rfl ?_)))))))
 rintro _ w1 ⟨hh1, rfl, E1, k1⟩
 replace hB := hB.trans k1
 refine ogm rfl rfl (ad (a8 (vs := [_, _]) rfl (rtimesR _ basePt _ xs E1 du _ (hv.s8 hB) hx)) rfl ?_)
 rintro _ w2 ⟨hh2, rfl, E2, k2⟩
 replace hB := hB.trans k2
 refine ogm rfl rfl (a7 (bH (vs := [_, _]) rfl rfl) rfl (a7 (bH (vs := [_, _]) rfl rfl) rfl (ad (aj ct) rfl ?_)))
 rintro _ w3 ⟨b1, rfl, eb1, hb1, k3, z1⟩
 have ge_b1 : w.heap.size ≤ b1 := by have := hB.size; omega
 replace hB := hB.trans k3
 clear eb1 z1
 replace hb1 : Bk w3 b1 67 (iv .i64 64 (fun _ => 0)) := by rw [iv, bE]; exact hb1
 refine ae (bh (vs := iv .i64 64 hh2) ct rfl rfl rfl ai hb1 rfl) ?_
 rintro _ w4 ⟨hb2, k4, z2⟩
 replace hB := hB.new k4 (nw ge_b1)
 clear z2
 refine oga rfl rfl (a6 (a5 (aZ (a7 (aa (cs' := iv .i64 64 hh2) fW ct rfl hb2 rfl rfl) rfl (ad (a8 (vs := [_]) rfl (qv E2 _)) rfl ?_)))))
 rintro v1 w5 ⟨o1, k5⟩
 have gl_o1 := hB.size
 replace hB := hB.trans k5
 refine oga rfl rfl (a6 (a9 [(2, _)] ⟨rfl, trivial⟩ (bG hfin Tryz.results18 rfl ?_)))
 exact ⟨o1.lo gl_o1, hB⟩
theorem kD (v : Value) (xs : List UInt8) (w : World) (hv : RdB w v xs) (hx : xs.length ≠ 32) : Rets Tryz.prog 16 [v] w (fun r w' => r = .tuple #[.agg [.slice none 0 0, .slice none 0 0, .slice none 0 0].toArray, .int .i64 1] ∧ Keep [] w w') := by
 have hB : Keep [] w w := Keep.refl _ _
 refine ac Tryz.func16 rfl (by decide) Tryz.ntmps16 rfl (fun fin _ hfin => a5 (aZ (ad (aj gT) rfl ?_)))
 rintro _ w1 ⟨b1, rfl, eb1, hb1, k1, z1⟩
 have ge_b1 : w.heap.size ≤ b1 := by have := hB.size; omega
 replace hB := hB.trans k1
 clear eb1 z1
 refine oga rfl rfl (a6 (a5 (a5 (aZ (ogm rfl rfl (a7 (cB aA rfl (by first | assumption | exact Own.rd ‹_› | exact Rd.s8 ‹_› hB | exact Own.rd (Own.s8 ‹_› hB))) rfl (a7 (dt rfl rfl) rfl (a6 (bg rfl (by omega) (a5 (aZ (a7 (dR (idx := []) (xs := []) (vs := []) (css := []) (out := [_, _, _]) pl41 gT rfl rfl trivial rfl rfl) rfl (ae (bB gT rfl rfl rfl (by simp only [List.forall_mem_cons]; refine ⟨rfl, rfl, rfl, fun v hv => by cases hv⟩) hb1 rfl) ?_)))))))))))))
 rintro _ w2 ⟨hb2, k2, z2⟩
 replace hB := hB.new k2 (nw ge_b1)
 clear z2
 replace hb2 : Bk w2 b1 _ [.slice none 0 0, .slice none 0 0, .slice none 0 0] := hb2
 refine oga rfl rfl (a6 (cS hfin Tryz.results16 rfl (ak ag41 gT hb2 rfl) rfl ?_))
 exact ⟨rfl, hB⟩
theorem kE (v : Value) (xs : List UInt8) (w : World) (hT : Tabs w) (hv : RdB w v xs) (hx : xs.length = 32) : Rets Tryz.prog 16 [v] w (fun r w' => ∃ a h q, r = .tuple #[.agg [a, cut h 32 64 1, q].toArray, .int .i64 0] ∧ OwnB w' w.heap.size a (skB xs) ∧ OwnB w' w.heap.size h (HH xs) ∧ OwnB w' w.heap.size q (pkB xs) ∧ Keep [] w w') := by
 have hB : Keep [] w w := Keep.refl _ _
 refine ac Tryz.func16 rfl (by decide) Tryz.ntmps16 rfl (fun fin _ hfin => a5 (aZ (ad (aj gT) rfl ?_)))
 rintro _ w1 ⟨b1, rfl, eb1, hb1, k1, z1⟩
 have ge_b1 : w.heap.size ≤ b1 := by have := hB.size; omega
 replace hB := hB.trans k1
 clear eb1 z1
 refine oga rfl rfl (a6 (a5 (a5 (aZ (ogm rfl rfl (a7 (cB aA rfl (by first | assumption | exact Own.rd ‹_› | exact Rd.s8 ‹_› hB | exact Own.rd (Own.s8 ‹_› hB))) rfl (a7 (dt rfl rfl) rfl (a6 (ci rfl (by omega) (af (a5 (aZ (ogm rfl rfl (ad (a8 (vs := [_]) rfl (mO _ _ _ (hT.s8 hB) (hv.s8 hB) (by omega))) rfl ?_))))))))))))))
 rintro vh w2 ⟨oh, k2⟩
 have gl_oh := hB.size
 have sb_b1_oh := fun x hx => (show x ≠ b1 from by have h1 := (oh.blk x hx).1; have h2 := hb1.lt; omega)
 obtain ⟨hB, hb1⟩ := bN k2 hB hb1
 refine oga rfl rfl (a6 (a5 (aZ (ogm rfl rfl ?_))))
 have hcap := hh_cap oh
 refine a7 (cN (v' := (cut vh 0 32 1)) (fo aA cg rfl oh.rd (.inl ⟨rfl, rfl⟩) (.inr ⟨_, _, rfl, rfl⟩) (by have := hcap; omega)) rfl) rfl (ad (a8 (vs := [_]) rfl (qC _ _ _ (hh_take oh) (l3 xs))) rfl ?_)
 rintro _ w3 ⟨va, rfl, oa, k3⟩
 have gl_oa := hB.size
 have sb_b1_oa := fun x hx => (show x ≠ b1 from by have h1 := (oa.blk x hx).1; have h2 := hb1.lt; omega)
 replace hb1 := hb1.s8 k3
 replace oh := oh.s8 k3
 replace hB := hB.trans k3
 refine ogm rfl rfl (a7 (bH (vs := [_, _]) rfl rfl) rfl (a7 (bH (vs := [_, _]) rfl rfl) rfl (oga rfl rfl (oga rfl rfl (a6 (a9 [(2, _), (4, _), (5, _)] ⟨rfl, rfl, rfl, trivial⟩ (a5 (bf 8 [0, 1, 2, 3, 4, 5, 6, 7] [5, 6] [] mixed [(5, _), (4, _), (2, _)] ⟨rfl, rfl, rfl, trivial⟩ (by decide +kernel) rfl (fun w4 k4 => ?_)))))))))
 replace hb1 := hb1.s8 k4
 replace oh := oh.s8 k4
 replace oa := oa.s8 k4
 replace hB := hB.trans k4
 refine bL 5 rfl rfl rfl rfl rfl (bL 4 rfl rfl rfl rfl rfl (am 20 rfl rfl rfl rfl (fun W' kk => cN (v' := (cut vh 32 64 1)) (fo aA cg rfl ((oh.s8 kk).rd) (.inr ⟨_, _, rfl, rfl⟩) (.inl ⟨rfl, rfl⟩) (by rw [fI]; omega)) (by rw [fI]; rfl)) (cF 19 21 rfl rfl rfl rfl rfl (fun W' kk => dR (idx := [0, 1]) (xs := [.tmp 19, .tmp 21]) (vs := [_, _]) (css := [[_], [_]]) (out := [_, _]) pl39 ty39 rfl rfl ⟨Rd.cells (oa.s8 kk).rd, Rd.cells (jW (oh.s8 kk)), trivial⟩ rfl rfl) (bL 5 rfl rfl rfl rfl rfl (bq [(23, _)] rfl rfl ⟨rfl, trivial⟩ rfl (a8 (vs := [_]) rfl (g9 _ (skB xs) _ oa.rd (nr xs))) ?_)))))
 rintro _ w5 ⟨hh1, rfl, E1, k5⟩
 refine ⟨k5, ?_⟩
 replace hb1 := hb1.s8 k5
 replace oh := oh.s8 k5
 replace oa := oa.s8 k5
 replace hB := hB.trans k5
 refine bq [(24, _)] rfl rfl ⟨rfl, trivial⟩ rfl (a8 (vs := [_]) rfl (lc E1 _)) ?_
 rintro v1 w6 ⟨o1, k6⟩
 refine ⟨k6, ?_⟩
 have gl_o1 := hB.size
 have sb_b1_o1 := fun x hx => (show x ≠ b1 from by have h1 := (o1.blk x hx).1; have h2 := hb1.lt; omega)
 replace hb1 := hb1.s8 k6
 replace oh := oh.s8 k6
 replace oa := oa.s8 k6
 replace hB := hB.trans k6
 have rcut := jW oh
 refine cF 22 25 rfl rfl rfl rfl rfl (fun W' kk => dR (idx := [0, 1]) (xs := [.tmp 22, .tmp 25]) (vs := [_, _]) (css := [[_, _], [_]]) (out := [_, _, _]) pl41 gT rfl rfl ⟨rfl, Rd.cells (by first | exact Rd.s8 ‹_› kk | exact Rd.s8 (Own.rd ‹_›) kk | exact Rd.s8 (Rd.s8 ‹_› hB) kk | exact Rd.s8 (Own.rd (Own.s8 ‹_› hB)) kk), trivial⟩ rfl rfl) (bz (ae (bB gT rfl rfl rfl (by simp only [List.forall_mem_cons]; refine ⟨(by first | rfl | exact Rd.one (by first | assumption | exact Own.rd ‹_› | exact Rd.s8 ‹_› hB | exact Own.rd (Own.s8 ‹_› hB))), (by first | rfl | exact Rd.one (by first | assumption | exact Own.rd ‹_› | exact Rd.s8 ‹_› hB | exact Own.rd (Own.s8 ‹_› hB))), (by first | rfl | exact Rd.one (by first | assumption | exact Own.rd ‹_› | exact Rd.s8 ‹_› hB | exact Own.rd (Own.s8 ‹_› hB))), fun v hv => by cases hv⟩) hb1 rfl) ?_))
 rintro _ w7 ⟨hb2, k7, z2⟩
 replace oh := oh.keep k7 (fun x hx hm => sb_b1_oh x hx (List.mem_singleton.1 hm))
 replace oa := oa.keep k7 (fun x hx hm => sb_b1_oa x hx (List.mem_singleton.1 hm))
 replace o1 := o1.keep k7 (fun x hx hm => sb_b1_o1 x hx (List.mem_singleton.1 hm))
 replace hB := hB.new k7 (nw ge_b1)
 clear z2
 replace hb2 : Bk w7 b1 _ [va, (cut vh 32 64 1), v1] := hb2
 refine oga rfl rfl (a6 (a9 [(2, _), (3, _)] ⟨rfl, rfl, trivial⟩ (cS hfin Tryz.results16 rfl (ak ag41 gT hb2 rfl) rfl ?_)))
 exact ⟨va, vh, _, rfl, oa.lo gl_oa, oh.lo gl_oh, o1.lo gl_o1, hB⟩
theorem qd (v : Value) (a b : List UInt8) (lo : Nat) (w : World) (hT : Tabs w) (hl : SlL w lo 22 v [a, b]) (hx : a.length + b.length ≤ 140737488354000) : Rets Tryz.prog 19 [v] w (fun r w' => OwnB w' w.heap.size r (hashB (a ++ b)) ∧ Keep [] w w') := by
  have h := i6 v [a, b] lo w hT hl (by simpa using hx)
  simpa using h
theorem l8 (v : Value) (a b c : List UInt8) (lo : Nat) (w : World) (hT : Tabs w) (hl : SlL w lo 22 v [a, b, c]) (hx : a.length + b.length + c.length ≤ 140737488354000) : Rets Tryz.prog 19 [v] w (fun r w' => OwnB w' w.heap.size r (hashB (a ++ b ++ c)) ∧ Keep [] w w') := by
  have h := i6 v [a, b, c] lo w hT hl (by simp only [List.flatten_cons, List.flatten_nil, List.length_append, List.length_nil]; omega)
  simpa using h
theorem pQ (va vb vc : Value) (xs ys zs : List UInt8) (w : World) (ha : RdB w va xs) (hb : RdB w vb ys) (hc : RdB w vc zs) (hx : xs.length + ys.length + zs.length ≤ 140737488354000) : Rets Tryz.prog 23 [va, vb, vc] w (fun r w' => OwnB w' w.heap.size r (hashB (xs ++ ys ++ zs)) ∧ Keep [] w w') := by
 have hB : Keep [] w w := Keep.refl _ _
 refine ac Tryz.func23 rfl (by decide) Tryz.ntmps23 rfl (fun fin _ hfin => a5 (aZ (oga rfl rfl (a6 (a5 (aZ ?_))))))
 have glc1 := hB.size
 refine ad (sI aA cg rfl) rfl ?_
 rintro _ w1 ⟨g1, rfl, hge1, hg1, kg1⟩
 replace hB := hB.trans kg1
 refine ogm rfl rfl (ad (n0 (lo := w.heap.size) aA cg rfl rfl rfl hg1 (hge1 ▸ Nat.le_refl _) rfl (show RdB _ _ (xs) from (ha.s8 hB)) (by constructor <;> omega)) rfl ?_)
 rintro v1 w2 ⟨oc1, k1⟩
 replace hB := hB.trans k1
 replace oc1 : OwnB w2 w.heap.size v1 (xs) := oc1
 refine ogm rfl rfl (ad (dn (ys := ys) aA cg rfl (oc1.lo glc1) rfl (hb.s8 hB) (by (try simp only [List.length_append]); omega) (by have := hB.size; omega)) rfl ?_)
 rintro v2 w3 ⟨oc2, k2, _, _⟩
 replace hB := hB.new k2 (fun x hx => .inl (Nat.le_trans glc1 (oc1.blk x hx).1))
 replace oc2 : OwnB w3 w.heap.size v2 (xs ++ ys) := by unfold OwnB; rw [List.length_append]; exact oc2
 refine ogm rfl rfl (ad (dn (ys := zs) aA cg rfl (oc2.lo glc1) rfl (hc.s8 hB) (by (try simp only [List.length_append]); omega) (by have := hB.size; omega)) rfl ?_)
 rintro v3 w4 ⟨oc3, k3, _, _⟩
 replace hB := hB.new k3 (fun x hx => .inl (Nat.le_trans glc1 (oc2.blk x hx).1))
 replace oc3 : OwnB w4 w.heap.size v3 (xs ++ ys ++ zs) := by unfold OwnB; rw [List.length_append]; exact oc3
 refine oga rfl rfl (a6 (a9 [(7, _)] ⟨rfl, trivial⟩ (a5 (aZ (ogm rfl rfl (ad (a8 (vs := [_]) rfl (pP _ (xs ++ ys ++ zs) _ oc3.rd (by simp only [List.length_append]; omega))) rfl ?_))))))
 rintro v4 w5 ⟨o1, k4⟩
 replace oc3 := oc3.s8 k4
 replace hB := hB.trans k4
 refine ad (a8 (vs := [_]) rfl (ig _ _ _ o1.rd (by rw [fI]; decide))) rfl ?_
 rintro _ w6 ⟨v5, rfl, o2, k5⟩
 have gl_o2 := hB.size
 replace oc3 := oc3.s8 k5
 replace hB := hB.trans k5
 refine ogm rfl rfl (a7 (bH (vs := [_, _]) rfl rfl) rfl (a7 (bH (vs := [_, _]) rfl rfl) rfl (oga rfl rfl (oga rfl rfl (a6 (a5 (aZ (ogm rfl rfl (oga rfl rfl (a6 (a9 [(6, _)] ⟨rfl, trivial⟩ (bG hfin Tryz.results23 rfl ?_))))))))))))
 exact ⟨o2.lo gl_o2, hB⟩
def pkE (xs : List UInt8) : Int := if xs.length = 32 then 0 else 1
def pkR (xs : List UInt8) : List UInt8 := if xs.length = 32 then pkB xs else []
def sgE (xs : List UInt8) : Int := if xs.length = 32 then 0 else 1
def sgR (xs ys : List UInt8) : List UInt8 := if xs.length = 32 then sgB xs ys else []
theorem spub_32 (v : Value) (xs : List UInt8) (w : World) (hT : Tabs w) (hv : RdB w v xs) (hx : xs.length = 32) : Rets Tryz.prog 7 [v] w (fun r w' => ∃ u, r = .tuple #[u, .int .i64 (pkE xs)] ∧ OwnB w' w.heap.size u (pkR xs) ∧ Keep [] w w') := by
 have hB : Keep [] w w := Keep.refl _ _
 refine ac Tryz.func7 rfl (by decide) Tryz.ntmps7 rfl (fun fin _ hfin => a5 (aZ (oga rfl rfl (oga rfl rfl (a6 (a5 (aZ (ogm rfl rfl (ad (a8 (vs := [_]) rfl (kE _ xs _ (hT.s8 hB) (hv.s8 hB) hx)) rfl ?_)))))))))
 rintro _ w1 ⟨va, vh, vq, rfl, oa, oh, oq, k1⟩
 have gl_oq := hB.size
 replace hB := hB.trans k1
 refine ogm rfl rfl (a7 (bH (vs := [_, _]) rfl rfl) rfl (a7 (bH (vs := [_, _]) rfl rfl) rfl (ad (aj gT) rfl ?_)))
 rintro _ w2 ⟨b1, rfl, eb1, hb1, k2, z1⟩
 have ge_b1 : w.heap.size ≤ b1 := by have := hB.size; omega
 have sb_b1_oa := fun x hx => (show x ≠ b1 from by have := (oa.blk x hx).2; omega)
 have sb_b1_oh := fun x hx => (show x ≠ b1 from by have := (oh.blk x hx).2; omega)
 have sb_b1_oq := fun x hx => (show x ≠ b1 from by have := (oq.blk x hx).2; omega)
 replace oa := oa.s8 k2
 replace oh := oh.s8 k2
 replace oq := oq.s8 k2
 replace hB := hB.trans k2
 clear eb1 z1
 have rcut := jW oh
 refine ae (bB gT rfl rfl rfl (by simp only [List.forall_mem_cons]; refine ⟨(by first | rfl | exact Rd.one (by first | assumption | exact Own.rd ‹_› | exact Rd.s8 ‹_› hB | exact Own.rd (Own.s8 ‹_› hB))), (by first | rfl | exact Rd.one (by first | assumption | exact Own.rd ‹_› | exact Rd.s8 ‹_› hB | exact Own.rd (Own.s8 ‹_› hB))), (by first | rfl | exact Rd.one (by first | assumption | exact Own.rd ‹_› | exact Rd.s8 ‹_› hB | exact Own.rd (Own.s8 ‹_› hB))), fun v hv => by cases hv⟩) hb1 rfl) ?_
 rintro _ w3 ⟨hb2, k3, z2⟩
 replace oa := oa.keep k3 (fun x hx hm => sb_b1_oa x hx (List.mem_singleton.1 hm))
 replace oh := oh.keep k3 (fun x hx hm => sb_b1_oh x hx (List.mem_singleton.1 hm))
 replace oq := oq.keep k3 (fun x hx hm => sb_b1_oq x hx (List.mem_singleton.1 hm))
 replace hB := hB.new k3 (nw ge_b1)
 clear z2
 replace hb2 : Bk w3 b1 _ [va, (cut vh 32 64 1), vq] := hb2
 refine oga rfl rfl (a6 (a5 (aZ (a7 (ax 2 Tryz.underlying41 rfl jj (by decide) rfl rfl) rfl (a7 (ah mn rfl hb2 rfl) rfl (ogm rfl rfl (oga rfl rfl (oga rfl rfl (a6 (a9 [(2, _), (3, _)] ⟨rfl, rfl, trivial⟩ (eS hfin Tryz.results7 rfl rfl ?_)))))))))))
 rw [show pkE xs = 0 from if_pos hx, show pkR xs = pkB xs from if_pos hx]
 exact ⟨_, rfl, oq.lo gl_oq, hB⟩
theorem spub_no (v : Value) (xs : List UInt8) (w : World) (hv : RdB w v xs) (hx : ¬ xs.length = 32) : Rets Tryz.prog 7 [v] w (fun r w' => ∃ u, r = .tuple #[u, .int .i64 (pkE xs)] ∧ OwnB w' w.heap.size u (pkR xs) ∧ Keep [] w w') := by
 have hB : Keep [] w w := Keep.refl _ _
 refine ac Tryz.func7 rfl (by decide) Tryz.ntmps7 rfl (fun fin _ hfin => a5 (aZ (oga rfl rfl (oga rfl rfl (a6 (a5 (aZ (ogm rfl rfl (ad (a8 (vs := [_]) rfl (kD _ xs _ (hv.s8 hB) hx)) rfl ?_)))))))))
 rintro _ w1 ⟨rfl, k1⟩
 replace hB := hB.trans k1
 refine ogm rfl rfl (a7 (bH (vs := [_, _]) rfl rfl) rfl (a7 (bH (vs := [_, _]) rfl rfl) rfl (ad (aj gT) rfl ?_)))
 rintro _ w2 ⟨b1, rfl, eb1, hb1, k2, z1⟩
 have ge_b1 : w.heap.size ≤ b1 := by have := hB.size; omega
 replace hB := hB.trans k2
 clear eb1 z1
 refine ae (bB gT rfl rfl rfl (by simp only [List.forall_mem_cons]; refine ⟨rfl, rfl, rfl, fun v hv => by cases hv⟩) hb1 rfl) ?_
 rintro _ w3 ⟨hb2, k3, z2⟩
 replace hB := hB.new k3 (nw ge_b1)
 clear z2
 replace hb2 : Bk w3 b1 _ [.slice none 0 0, .slice none 0 0, .slice none 0 0] := hb2
 refine oga rfl rfl (a6 (a5 (aZ (a7 (ax 2 Tryz.underlying41 rfl jj (by decide) rfl rfl) rfl (a7 (ah mn rfl hb2 rfl) rfl (ogm rfl rfl (oga rfl rfl (oga rfl rfl (a6 (a9 [(2, _), (3, _)] ⟨rfl, rfl, trivial⟩ (eS hfin Tryz.results7 rfl rfl ?_)))))))))))
 rw [show pkE xs = 1 from if_neg hx, show pkR xs = [] from if_neg hx]
 exact ⟨_, rfl, dM _ _ _ _, hB⟩
theorem qc (v : Value) (xs : List UInt8) (w : World) (hT : Tabs w) (hv : RdB w v xs) : Rets Tryz.prog 7 [v] w (fun r w' => ∃ u, r = .tuple #[u, .int .i64 (pkE xs)] ∧ OwnB w' w.heap.size u (pkR xs) ∧ Keep [] w w') := by
  by_cases hx : xs.length = 32
  · exact spub_32 v xs w hT hv hx
  · exact spub_no v xs w hv hx
theorem qa (v vt : Value) (xs ys : List UInt8) (w : World) (hT : Tabs w) (hv : RdB w v xs) (hy : RdB w vt ys) (hyl : ys.length ≤ 140737488351232) (hx : xs.length = 32) : Rets Tryz.prog 12 [v, vt] w (fun r w' => ∃ u, r = .tuple #[u, .int .i64 (sgE xs)] ∧ OwnB w' w.heap.size u (sgR xs ys) ∧ Keep [] w w') := by
 have hB : Keep [] w w := Keep.refl _ _
 refine ac Tryz.func12 rfl (by decide) Tryz.ntmps12 rfl (fun fin _ hfin => a5 (aZ (oga rfl rfl (oga rfl rfl (a6 (a5 (aZ (ogm rfl rfl (ad (a8 (vs := [_]) rfl (kE _ xs _ (hT.s8 hB) (hv.s8 hB) hx)) rfl ?_)))))))))
 rintro _ w1 ⟨va, vh, vq, rfl, oa, oh, oq, k1⟩
 replace hB := hB.trans k1
 refine ogm rfl rfl (a7 (bH (vs := [_, _]) rfl rfl) rfl (a7 (bH (vs := [_, _]) rfl rfl) rfl (ad (aj gT) rfl ?_)))
 rintro _ w2 ⟨b1, rfl, eb1, hb1, k2, z1⟩
 have ge_b1 : w.heap.size ≤ b1 := by have := hB.size; omega
 have sb_b1_oa := fun x hx => (show x ≠ b1 from by have := (oa.blk x hx).2; omega)
 have sb_b1_oh := fun x hx => (show x ≠ b1 from by have := (oh.blk x hx).2; omega)
 have sb_b1_oq := fun x hx => (show x ≠ b1 from by have := (oq.blk x hx).2; omega)
 replace oa := oa.s8 k2
 replace oh := oh.s8 k2
 replace oq := oq.s8 k2
 replace hB := hB.trans k2
 clear eb1 z1
 have rcut := jW oh
 refine ae (bB gT rfl rfl rfl (by simp only [List.forall_mem_cons]; refine ⟨(by first | rfl | exact Rd.one (by first | assumption | exact Own.rd ‹_› | exact Rd.s8 ‹_› hB | exact Own.rd (Own.s8 ‹_› hB))), (by first | rfl | exact Rd.one (by first | assumption | exact Own.rd ‹_› | exact Rd.s8 ‹_› hB | exact Own.rd (Own.s8 ‹_› hB))), (by first | rfl | exact Rd.one (by first | assumption | exact Own.rd ‹_› | exact Rd.s8 ‹_› hB | exact Own.rd (Own.s8 ‹_› hB))), fun v hv => by cases hv⟩) hb1 rfl) ?_
 rintro _ w3 ⟨hb2, k3, z2⟩
 replace oa := oa.keep k3 (fun x hx hm => sb_b1_oa x hx (List.mem_singleton.1 hm))
 replace oh := oh.keep k3 (fun x hx hm => sb_b1_oh x hx (List.mem_singleton.1 hm))
 replace oq := oq.keep k3 (fun x hx hm => sb_b1_oq x hx (List.mem_singleton.1 hm))
 replace hB := hB.new k3 (nw ge_b1)
 clear z2
 replace hb2 : Bk w3 b1 _ [va, (cut vh 32 64 1), vq] := hb2
 refine oga rfl rfl (a6 (a5 (a5 (aZ (ogm rfl rfl (a7 (dt rfl rfl) rfl (a6 (ci rfl (by decide) (af (a5 (aZ (a7 (ax 0 Tryz.underlying41 rfl ty39 (by decide) rfl rfl) rfl (a7 (ax 1 Tryz.underlying39 rfl jj (by decide) rfl rfl) rfl (a7 (ah mn rfl hb2 rfl) rfl (ogm rfl rfl ?_)))))))))))))))
 have rcut := jW oh
 refine ad (sH (m := 2) (ls := [pxB xs, ys]) (xs := [.tmp 22, .tmp 23]) (us := [_, _]) aX jj rfl rfl (ee (by first | exact Rd.nil _ _ | exact (by first | assumption | exact Own.rd ‹_› | exact Rd.s8 ‹_› hB | exact Own.rd (Own.s8 ‹_› hB))) (ee (by first | exact Rd.nil _ _ | exact (by first | assumption | exact Own.rd ‹_› | exact Rd.s8 ‹_› hB | exact Own.rd (Own.s8 ‹_› hB))) (ke _))) rfl rfl) rfl ?_
 rintro v1 w4 ⟨sl1, k4⟩
 replace oa := oa.s8 k4
 replace oh := oh.s8 k4
 replace oq := oq.s8 k4
 obtain ⟨hB, hb2⟩ := bN k4 hB hb2
 refine ad (a8 (vs := [_]) rfl (qd _ (pxB xs) ys _ _ (hT.s8 hB) sl1 (by have a := nu xs; have b := ny xs; have c := gD (rB xs ys); omega))) rfl ?_
 rintro vr w5 ⟨ovr, k5⟩
 replace oa := oa.s8 k5
 replace oh := oh.s8 k5
 replace oq := oq.s8 k5
 replace hb2 := hb2.s8 k5
 replace sl1 := sl1.s8 k5
 replace hB := hB.trans k5
 refine oga rfl rfl (a6 (a9 [(1, _), (6, _), (8, _)] ⟨rfl, rfl, rfl, trivial⟩ (a5 (aZ (ogm rfl rfl (ad (a8 (vs := [_]) rfl (g9 _ (rB xs ys) _ ovr.rd (fP _))) rfl ?_))))))
 rintro _ w6 ⟨hh1, rfl, E1, k6⟩
 replace oa := oa.s8 k6
 replace oh := oh.s8 k6
 replace oq := oq.s8 k6
 replace hb2 := hb2.s8 k6
 replace sl1 := sl1.s8 k6
 replace ovr := ovr.s8 k6
 replace hB := hB.trans k6
 refine ad (a8 (vs := [_]) rfl (lc E1 _)) rfl ?_
 rintro vbig w7 ⟨obig, k7⟩
 have gl_obig := hB.size
 replace oa := oa.s8 k7
 replace oh := oh.s8 k7
 replace oq := oq.s8 k7
 replace hb2 := hb2.s8 k7
 replace sl1 := sl1.s8 k7
 replace ovr := ovr.s8 k7
 replace hB := hB.trans k7
 refine oga rfl rfl (a6 (a5 (bf 15 [0, 1, 2, 3, 6, 7, 8, 9, 4, 5, 10, 11, 12, 13, 14] [4, 5, 10] [] mixed [(9, _), (6, _), (1, _), (8, _)] ⟨rfl, rfl, rfl, rfl, trivial⟩ (by decide +kernel) rfl (fun w8 k8 => ?_))))
 replace oa := oa.s8 k8
 replace oh := oh.s8 k8
 replace oq := oq.s8 k8
 replace hb2 := hb2.s8 k8
 replace sl1 := sl1.s8 k8
 replace ovr := ovr.s8 k8
 replace obig := obig.s8 k8
 replace hB := hB.trans k8
 refine bL 9 rfl rfl rfl rfl rfl (am 6 rfl rfl rfl rfl (fun W' kk => ax 2 Tryz.underlying41 rfl jj (by decide) rfl rfl) (am 31 rfl rfl rfl rfl (fun W' kk => ah mn rfl (Bk.s8 hb2 kk) rfl) (bL 1 rfl rfl rfl rfl rfl (am 6 rfl rfl rfl rfl (fun W' kk => ax 0 Tryz.underlying41 rfl ty39 (by decide) rfl rfl) (am 36 rfl rfl rfl rfl (fun W' kk => ax 0 Tryz.underlying39 rfl jj (by decide) rfl rfl) (am 37 rfl rfl rfl rfl (fun W' kk => ah mn rfl (Bk.s8 hb2 kk) rfl) (bL 8 rfl rfl rfl rfl rfl (bq [(30, _), (32, _), (33, _)] rfl rfl ⟨rfl, rfl, rfl, trivial⟩ rfl (sH (m := 3) (ls := [gB (rB xs ys), pkB xs, ys]) (xs := [.tmp 30, .tmp 32, .tmp 33]) (us := [_, _, _]) aX jj rfl rfl (ee (by first | exact Rd.nil _ _ | exact (by first | assumption | exact Own.rd ‹_› | exact Rd.s8 ‹_› hB | exact Own.rd (Own.s8 ‹_› hB))) (ee (by first | exact Rd.nil _ _ | exact (by first | assumption | exact Own.rd ‹_› | exact Rd.s8 ‹_› hB | exact Own.rd (Own.s8 ‹_› hB))) (ee (by first | exact Rd.nil _ _ | exact (by first | assumption | exact Own.rd ‹_› | exact Rd.s8 ‹_› hB | exact Own.rd (Own.s8 ‹_› hB))) (ke _)))) rfl rfl) ?_))))))))
 rintro v2 w9 ⟨sl2, k9⟩
 refine ⟨k9, ?_⟩
 replace oa := oa.s8 k9
 replace oh := oh.s8 k9
 replace oq := oq.s8 k9
 replace sl1 := sl1.s8 k9
 replace ovr := ovr.s8 k9
 replace obig := obig.s8 k9
 replace hB := hB.trans k9
 refine bq [(34, _)] rfl rfl ⟨rfl, trivial⟩ rfl (a8 (vs := [_]) rfl (l8 _ (gB (rB xs ys)) (pkB xs) ys _ _ (hT.s8 hB) sl2 (by have a := nu xs; have b := ny xs; have c := gD (rB xs ys); omega))) ?_
 rintro vn w10 ⟨ovn, k10⟩
 refine ⟨k10, ?_⟩
 replace oa := oa.s8 k10
 replace oh := oh.s8 k10
 replace oq := oq.s8 k10
 replace sl1 := sl1.s8 k10
 replace ovr := ovr.s8 k10
 replace obig := obig.s8 k10
 replace sl2 := sl2.s8 k10
 replace hB := hB.trans k10
 refine bq [(35, _), (38, _), (39, _)] rfl rfl ⟨rfl, rfl, rfl, trivial⟩ rfl (a8 (vs := [_, _, _]) rfl (mj _ _ _ _ (skB xs) (rB xs ys) _ ovn.rd oa.rd ovr.rd (fP _) (nr _) (fP _))) ?_
 rintro _ w11 ⟨v3, rfl, o3, k11⟩
 refine ⟨k11, ?_⟩
 replace oa := oa.s8 k11
 replace oh := oh.s8 k11
 replace oq := oq.s8 k11
 replace sl1 := sl1.s8 k11
 replace ovr := ovr.s8 k11
 replace obig := obig.s8 k11
 replace sl2 := sl2.s8 k11
 replace ovn := ovn.s8 k11
 replace hB := hB.trans k11
 refine bL 40 rfl rfl rfl rfl rfl (am 29 rfl rfl rfl rfl (fun W' kk => bH (vs := [_, _]) rfl rfl) (am 29 rfl rfl rfl rfl (fun W' kk => bH (vs := [_, _]) rfl rfl) (am 41 rfl rfl rfl rfl (fun W' kk => fe rfl) (bz (oga rfl rfl (a6 (a9 [(9, _), (10, _)] ⟨rfl, rfl, trivial⟩ (a5 (aZ (ogm rfl rfl (ogm rfl rfl (ad (dn (ys := sgS xs ys) aA cg rfl (obig.lo gl_obig) rfl o3.rd (by rw [gD]; show 32 + (leB _ 32).length ≤ _; rw [eI]; decide) (by have := hB.size; omega)) rfl ?_))))))))))))
 rintro vx wx ⟨ox, kx, _, _⟩
 replace hB := hB.new kx (fun x hx => .inl ((obig.lo gl_obig).blk x hx).1)
 replace ox : OwnB wx w.heap.size vx (sgB xs ys) := by unfold OwnB sgB; rw [List.length_append]; exact ox
 refine oga rfl rfl (oga rfl rfl (a6 (eS hfin Tryz.results12 rfl rfl ?_)))
 rw [show sgE xs = 0 from if_pos hx, show sgR xs ys = sgB xs ys from if_pos hx]
 exact ⟨_, rfl, ox, hB⟩
theorem q9 (v vt : Value) (xs ys : List UInt8) (w : World) (hv : RdB w v xs) (hx : ¬ xs.length = 32) : Rets Tryz.prog 12 [v, vt] w (fun r w' => ∃ u, r = .tuple #[u, .int .i64 (sgE xs)] ∧ OwnB w' w.heap.size u (sgR xs ys) ∧ Keep [] w w') := by
 have hB : Keep [] w w := Keep.refl _ _
 refine ac Tryz.func12 rfl (by decide) Tryz.ntmps12 rfl (fun fin _ hfin => a5 (aZ (oga rfl rfl (oga rfl rfl (a6 (a5 (aZ (ogm rfl rfl (ad (a8 (vs := [_]) rfl (kD _ xs _ (hv.s8 hB) hx)) rfl ?_)))))))))
 rintro _ w1 ⟨rfl, k1⟩
 replace hB := hB.trans k1
 refine ogm rfl rfl (a7 (bH (vs := [_, _]) rfl rfl) rfl (a7 (bH (vs := [_, _]) rfl rfl) rfl (ad (aj gT) rfl ?_)))
 rintro _ w2 ⟨b1, rfl, eb1, hb1, k2, z1⟩
 have ge_b1 : w.heap.size ≤ b1 := by have := hB.size; omega
 replace hB := hB.trans k2
 clear eb1 z1
 refine ae (bB gT rfl rfl rfl (by simp only [List.forall_mem_cons]; refine ⟨rfl, rfl, rfl, fun v hv => by cases hv⟩) hb1 rfl) ?_
 rintro _ w3 ⟨hb2, k3, z2⟩
 replace hB := hB.new k3 (nw ge_b1)
 clear z2
 replace hb2 : Bk w3 b1 _ [.slice none 0 0, .slice none 0 0, .slice none 0 0] := hb2
 refine oga rfl rfl (a6 (a5 (a5 (aZ (ogm rfl rfl (a7 (dt rfl rfl) rfl (a6 (bg rfl (by decide) (a5 (aZ (ogm rfl rfl (oga rfl rfl (oga rfl rfl (a6 (a9 [(4, _), (5, _)] ⟨rfl, rfl, trivial⟩ (eS hfin Tryz.results12 rfl rfl ?_))))))))))))))))
 rw [show sgE xs = 1 from if_neg hx, show sgR xs ys = [] from if_neg hx]
 exact ⟨_, rfl, dM _ _ _ _, hB⟩
theorem pG (v vt : Value) (xs ys : List UInt8) (w : World) (hT : Tabs w) (hv : RdB w v xs) (hy : RdB w vt ys) (hyl : ys.length ≤ 140737488351232) : Rets Tryz.prog 12 [v, vt] w (fun r w' => ∃ u, r = .tuple #[u, .int .i64 (sgE xs)] ∧ OwnB w' w.heap.size u (sgR xs ys) ∧ Keep [] w w') := by
  by_cases hx : xs.length = 32
  · exact qa v vt xs ys w hT hv hy hyl hx
  · exact q9 v vt xs ys w hv hx
end Go.Proofs.YtllmbkmghmmhfaaGreatDoor.W
namespace Go.Proofs.YtllmbkmghmmhfaaGreatDoor.W
open Go Go.Eng Go.Byt Go.Fld Go.Ed
attribute [local irreducible] encB
theorem lJ (y : Fp) : decV y ≠ 0 := by
 rw [i0]
 intro h
 have hy : y ≠ 0 := by
   rintro rfl
   have e : d * (0 * 0) + 1 = (1 : Fp) := by generalize d = q; grind -lia -linarith
   rw [e] at h; exact ko h
 have hi := ce hy
 have him := im_sq
 refine nz (im * inv y) ?_
 generalize inv y = i at *
 generalize im = m at *
 generalize d = q at *
 have h2 : q * (y * y) = -1 := by grind -lia -linarith
 have h3 : q = q * (y * i) * (y * i) := by rw [hi]; grind -lia -linarith
 have h4 : q = (q * (y * y)) * (i * i) := by grind -lia -linarith
 rw [h4, h2]
 grind -lia -linarith
theorem nt {u v : Fp} (h : rootOk u v = true) : rootF u v * rootF u v = u * inv v := by
 have h1 : cw (u * inv v) * cw (u * inv v) = u * inv v := by
   unfold rootOk at h
   simp only [Bool.and_eq_true] at h
   exact of_decide_eq_true h.1
 unfold rootF
 rw [h, cond_true]
 split
 · generalize cw (u * inv v) = r at *
   rw [← h1]; grind -lia -linarith
 · exact h1
theorem oA (r : Fp) (hz : r.val ≠ 0) : (0 - r).val % 2 = 1 ↔ r.val % 2 = 0 := by
 have hr := r.isLt
 have e : (0 - r).val = ((P - r.val) + (0 : Fp).val) % P := by rw [Fin.sub_def]
 have z : (0 : Fp).val = 0 := rfl
 have hP : P % 2 = 1 := by decide +kernel
 have key : ∀ q n : Nat, n ≠ 0 → n < q → q % 2 = 1 → ((q - n) % q % 2 = 1 ↔ n % 2 = 0) := by
   intro q n h1 h2 h3
   rw [Nat.mod_eq_of_lt (show q - n < q by omega)]; omega
 rw [e, z, Nat.add_zero]
 exact key P r.val hz hr hP
theorem pO {u v : Fp} (h : rootOk u v = true) : ¬ oddF (rootF u v) := by
 unfold rootF
 rw [h, cond_true]
 split
 · rename_i ho
   generalize cw (u * inv v) = r at *
   unfold oddF at *
   rw [oA r (by omega)]; omega
 · assumption
theorem py {xs : List UInt8} (h : decE xs = 0) : xs.length = 32 ∧ fpB (decY xs) = decLow xs ∧ rootOk (decU (decY xs)) (decV (decY xs)) = true ∧ (decOdd xs = true → rootF (decU (decY xs)) (decV (decY xs)) ≠ 0) := by
 unfold decE at h
 by_cases h1 : xs.length = 32
 · rw [if_neg (by omega)] at h
   by_cases h2 : fpB (decY xs) = decLow xs
   · rw [if_neg (by simpa using h2)] at h
     cases h3 : (!rootOk (decU (decY xs)) (decV (decY xs)) || (decOdd xs && decide (rootF (decU (decY xs)) (decV (decY xs)) = 0))) with
     | true => rw [h3, if_pos rfl] at h; cases h
     | false =>
       simp only [Bool.or_eq_false_iff, Bool.not_eq_false', Bool.and_eq_false_iff, decide_eq_false_iff_not] at h3
       refine ⟨h1, h2, h3.1, fun ho => ?_⟩
       rcases h3.2 with h4 | h4
       · rw [ho] at h4; cases h4
       · exact h4
   · rw [if_pos h2] at h; cases h
 · rw [if_pos h1] at h; cases h
theorem decX_sq {xs : List UInt8} (h : decE xs = 0) : decX xs * decX xs = decU (decY xs) * inv (decV (decY xs)) := by
 obtain ⟨_, _, h3, _⟩ := py h
 have hs := nt h3
 unfold decX
 split
 · generalize rootF (decU (decY xs)) (decV (decY xs)) = r at *
   rw [← hs]; grind -lia -linarith
 · exact hs
theorem dec_on {xs : List UInt8} (h : decE xs = 0) : OnP (decX xs, decY xs) := by
 have hs := decX_sq h
 have hi := ce (lJ (decY xs))
 show decY xs * decY xs - decX xs * decX xs = 1 + d * decX xs * decX xs * decY xs * decY xs
 rw [j9] at hs
 rw [i0] at hs hi
 generalize decX xs = x at *
 generalize decY xs = y at *
 generalize d = q at *
 generalize inv (q * (y * y) + 1) = i at *
 have e : x * x * (q * (y * y) + 1) = y * y - 1 := by rw [hs]; grind -lia -linarith
 grind -lia -linarith
theorem is {w : World} {lo : Nat} {e : TypeId} {u : Value} {xs : List UInt8} (o : Own w lo e 1 u (xs.length + 2) (bv (xs ++ [201, 202]))) : RdB w (cut u 0 xs.length 1) xs := by
 have h : RdB w u (xs ++ [201, 202]) := by unfold RdB; rw [List.length_append]; exact o.rd
 have h' := h.cutB (l := 0) (hi := xs.length) (by omega) (by simp)
 simpa using h'
theorem cut_cut {w : World} {n : Nat} {cs : List Value} {u : Value} {m k : Nat} (h : Rd w 1 u n cs) : cut (cut u 0 m 1) 0 k 1 = cut u 0 k 1 := by
 obtain ⟨A, c, rfl, _⟩ := h
 have e : ∀ a : Addr, a.add 0 = a := fun a => Addr.add_zero' a
 cases A with
 | none => simp [cut]
 | some a => simp [cut, e]
theorem ic (xs : List UInt8) : gb (xs ++ [201, 202]) (xs.length : Int) = 201 := by unfold gb; simp
theorem mark2 (xs : List UInt8) : gb (xs ++ [201, 202]) ((xs.length : Int) + 1) = 202 := by
 unfold gb
 rw [show ((xs.length : Int) + 1).toNat = xs.length + 1 by omega, List.getD_eq_getElem?_getD, List.getElem?_append_right (by omega)]
 simp
end Go.Proofs.YtllmbkmghmmhfaaGreatDoor.W
namespace Go.Proofs.YtllmbkmghmmhfaaGreatDoor.W
open Go Go.Eng Go.Byt
open Go.Fld Go.Ed
theorem _root_.Go.Eng.SlL.cblk {w : World} {lo : Nat} {T : TypeId} {v : Value} {ls : List (List UInt8)} (h : Go.Eng.SlL w lo T v ls) : Go.Eng.cblk v = Go.Eng.vblk v := by obtain ⟨us, _, _, h3⟩ := h; exact h3.rd.cblk
attribute [local irreducible] encB decE decX decY pmul padd leI
theorem ld (v : Value) (xs : List UInt8) (w : World) (hv : RdB w v xs) (hx : xs.length = 32) : Rets Tryz.prog 25 [v] w (fun v w' => ∃ p, v = .tuple #[.agg (iv .u64 20 p).toArray, .int .i64 (decE xs)] ∧ (decE xs = 0 → PtR p (dP xs)) ∧ Keep [] w w') :=
  (ji v xs w hv hx).mono fun r w' ⟨p, e, h, _, k⟩ => ⟨p, e, fun h0 => jK (h h0), k⟩
theorem mD {xs : List UInt8} (h : decE xs = 0) : OnP (dP xs) := dec_on h
theorem on_vn {xs ys : List UInt8} (h : decE xs = 0) : OnP (pmul (leI ys).toNat (dP xs)) := dY (mD h) _
theorem qi (v : Value) (xs : List UInt8) (w : World) (hv : RdB w v xs) (hx : xs.length = 32) : Rets Tryz.prog 26 [v] w (fun r w' => r = .bool (decide (leI xs < 7237005577332262213973186563042994240857116359379907606001950938285454250989)) ∧ Keep [] w w') :=
  (ml v xs w hv).mono fun r w' ⟨e, k⟩ => ⟨by rw [e, decide_eq_true hx, Bool.true_and], k⟩
theorem qw (v : Value) (xs : List UInt8) (w : World) (hv : RdB w v xs) (hx : xs.length = 32) : Rets Tryz.prog 31 [v] w (fun r w' => r = .bool (decide (leI xs < 7237005577332262213973186563042994240857116359379907606001950938285454250989)) ∧ Keep [] w w') :=
  (nY v xs w hv).mono fun r w' ⟨e, k⟩ => ⟨by rw [e, decide_eq_true hx, Bool.true_and], k⟩
theorem ssame_g {p q : Nat → Int} {xs : List UInt8} {b : Pt} (hp : PtR p (pmul (leI xs).toNat basePt)) (hq : PtR q b) (w : World) : Rets Tryz.prog 28 [.agg (iv .u64 20 p).toArray, .agg (iv .u64 20 q).toArray] w (fun v w' => v = .bool (decide (gB xs = encB b.1 b.2)) ∧ Keep [] w w') := by unfold gB; exact PsameR hp hq w
theorem gG {w : World} {v : Value} {sg : List UInt8} (h : RdB w v sg) (hl : sg.length = 64) : RdB w (cut v 0 32 1) (sg.take 32) := by
 have := h.cutB (l := 0) (hi := 32) (by decide) (by omega)
 rwa [List.drop_zero] at this
theorem fU {w : World} {v : Value} {sg : List UInt8} (h : RdB w v sg) (hl : sg.length = 64) : RdB w (cut v 32 64 1) (sg.drop 32) := by
 have := h.cutB (l := 32) (hi := 64) (by decide) (by omega)
 rwa [List.take_of_length_le (by rw [List.length_drop]; omega)] at this
theorem kT {sg : List UInt8} (hl : sg.length = 64) : (sg.take 32).length = 32 := by rw [List.length_take]; omega
theorem lH {sg : List UInt8} (hl : sg.length = 64) : (sg.drop 32).length = 32 := by rw [List.length_drop]; omega
theorem ver1 {pk tx sg : List UInt8} (h : pk.length ≠ 32 ∨ sg.length ≠ 64) : verE pk tx sg = 1 := if_pos h
theorem ver30 {pk tx sg : List UInt8} (h : ¬ (pk.length ≠ 32 ∨ sg.length ≠ 64)) (h2 : decE pk ≠ 0) : verE pk tx sg = 30 := by unfold verE; rw [if_neg h, if_pos h2]
theorem ne {pk tx sg : List UInt8} (h : ¬ (pk.length ≠ 32 ∨ sg.length ≠ 64)) (h2 : ¬ decE pk ≠ 0) (h3 : decE (sg.take 32) ≠ 0 ∨ ¬ leI (sg.drop 32) < 7237005577332262213973186563042994240857116359379907606001950938285454250989) : verE pk tx sg = 31 := by unfold verE; rw [if_neg h, if_neg h2, if_pos h3]
theorem verX {pk tx sg : List UInt8} (h : ¬ (pk.length ≠ 32 ∨ sg.length ≠ 64)) (h2 : ¬ decE pk ≠ 0) (h3 : ¬ (decE (sg.take 32) ≠ 0 ∨ ¬ leI (sg.drop 32) < 7237005577332262213973186563042994240857116359379907606001950938285454250989)) (h4 : ¬ gB (sg.drop 32) = encB (verP pk tx sg).1 (verP pk tx sg).2) : verE pk tx sg = 31 := by unfold verE; rw [if_neg h, if_neg h2, if_neg h3, if_neg h4]
theorem ver0 {pk tx sg : List UInt8} (h : ¬ (pk.length ≠ 32 ∨ sg.length ≠ 64)) (h2 : ¬ decE pk ≠ 0) (h3 : ¬ (decE (sg.take 32) ≠ 0 ∨ ¬ leI (sg.drop 32) < 7237005577332262213973186563042994240857116359379907606001950938285454250989)) (h4 : gB (sg.drop 32) = encB (verP pk tx sg).1 (verP pk tx sg).2) : verE pk tx sg = 0 := by unfold verE; rw [if_neg h, if_neg h2, if_neg h3, if_pos h4]
theorem sver_64 (va vb vc : Value) (pk tx sg : List UInt8) (w : World) (hT : Tabs w) (hva : RdB w va pk) (hvb : RdB w vb tx) (hvc : RdB w vc sg) (htl : tx.length ≤ 140737488351232) (hlp : pk.length = 32) (hlg : sg.length = 64) : Rets Tryz.prog 14 [va, vb, vc] w (fun r w' => r = .int .i64 (verE pk tx sg) ∧ Keep [] w w') := by
  have hB : Keep [] w w := Keep.refl _ _
  have hcT := gG hvc hlg
  have hcD := fU hvc hlg
  refine ac Tryz.func14 rfl (by decide) Tryz.ntmps14 rfl (fun fin _ hfin => a5 (aZ (oga rfl rfl (a6 (a5 (a5 (aZ (ogm rfl rfl ?_))))))))
  refine a7 (cB aA rfl (by first | assumption | exact Own.rd (by assumption) | exact Rd.s8 (by assumption) hB | exact Own.rd (Own.s8 (by assumption) hB))) rfl (a7 (dt rfl rfl) rfl (ogm rfl rfl (dO (grdT rfl rfl rfl (by simp [hlp])) (bY rfl) rfl (dO (grdT rfl rfl rfl (by simp [hlp])) (cB aA rfl (by first | assumption | exact Own.rd (by assumption) | exact Rd.s8 (by assumption) hB | exact Own.rd (Own.s8 (by assumption) hB))) rfl (dO (grdT rfl rfl rfl (by simp [hlp])) (dt rfl rfl) rfl (a7 (iw rfl (by simp [hlp]) rfl) rfl (a6 (ci rfl (by omega) ?_))))))))
  refine af (a5 (aZ (ogm rfl rfl (ad (a8 (vs := [_]) rfl (ld _ pk _ (hva.s8 hB) hlp)) rfl ?_))))
  rintro _ w1 ⟨hh1, rfl, E1, k1⟩
  replace hB := hB.trans k1
  refine ogm rfl rfl (a7 (bH (vs := [_, _]) rfl rfl) rfl (a7 (bH (vs := [_, _]) rfl rfl) rfl (ad (aj bx) rfl ?_)))
  rintro _ w2 ⟨b1, rfl, eb1, hb1, k2, z1⟩
  have ge_b1 : w.heap.size ≤ b1 := by have := hB.size; omega
  replace hB := hB.trans k2
  clear eb1 z1
  replace hb1 : Bk w2 b1 53 (iv .u64 20 (fun _ => 0)) := by rw [iv, bE]; exact hb1
  refine ae (bh (vs := iv .u64 20 hh1) bx rfl rfl rfl ai hb1 rfl) ?_
  rintro _ w3 ⟨hb2, k3, z2⟩
  replace hB := hB.new k3 (nw ge_b1)
  clear z2
  refine oga rfl rfl (a6 (a9 [(0, _), (1, _), (2, _), (7, _), (8, _)] ⟨rfl, rfl, rfl, rfl, rfl, trivial⟩ (a5 (a5 (aZ (ogm rfl rfl (a7 (dt rfl rfl) rfl (a6 ?_))))))))
  refine bT rfl (fun hc1 => ?_) (fun hc1 => ?_)
  · -- yes
    refine a5 (aZ (oga rfl rfl (a6 (bG hfin Tryz.results14 rfl ?_))))
    exact ⟨by rw [ver30 (by omega) (by omega)], hB⟩
  · -- no
    refine af (a5 (eL mixed (by decide +kernel) (fun w4 k4 => ?_)))
    obtain ⟨hB, hb2⟩ := bN k4 hB hb2
    refine ao (bY rfl) rfl (ao (cN (v' := (cut vc 0 32 1)) (fo aA cg rfl (hvc.s8 hB) (.inl ⟨rfl, rfl⟩) (.inr ⟨_, _, rfl, rfl⟩) (by have := hvc.vcap.1; omega)) rfl) rfl (ao (bY rfl) rfl (ao (cN (v' := (cut vc 32 64 1)) (fo aA cg rfl (hvc.s8 hB) (.inr ⟨_, _, rfl, rfl⟩) (.inl ⟨rfl, rfl⟩) (by have := hvc.vcap.1; omega)) (by rw [show ((sg.length : Nat) : Int).toNat = 64 from by omega]; rfl)) rfl (ao (fe rfl) rfl (ao (fe rfl) rfl (cV (a6 (a5 ?_))))))))
    refine aZ (ogm rfl rfl (ad (a8 (vs := [_]) rfl (ld _ (sg.take 32) _ (gG (hvc.s8 hB) hlg) (kT hlg))) rfl ?_))
    rintro _ w5 ⟨hh2, rfl, E2, k5⟩
    obtain ⟨hB, hb2⟩ := bN k5 hB hb2
    refine ogm rfl rfl (a7 (bH (vs := [_, _]) rfl rfl) rfl (a7 (bH (vs := [_, _]) rfl rfl) rfl (ad (aj bx) rfl ?_)))
    rintro _ w6 ⟨b2, rfl, eb2, hb3, k6, z3⟩
    have ge_b2 : w.heap.size ≤ b2 := by have := hB.size; omega
    have ne_b1_b2 : b1 ≠ b2 := by have := hb2.lt; omega
    obtain ⟨hB, hb2⟩ := bN k6 hB hb2
    clear eb2 z3
    replace hb3 : Bk w6 b2 53 (iv .u64 20 (fun _ => 0)) := by rw [iv, bE]; exact hb3
    refine ae (bh (vs := iv .u64 20 hh2) bx rfl rfl rfl ai hb3 rfl) ?_
    rintro _ w7 ⟨hb4, k7, z4⟩
    replace hb2 := hb2.keep k7 (nm ne_b1_b2)
    replace hB := hB.new k7 (nw ge_b2)
    clear z4
    refine oga rfl rfl (a6 (a9 [(0, _), (1, _), (7, _), (8, _), (9, _), (10, _), (11, _)] ⟨rfl, rfl, rfl, rfl, rfl, rfl, rfl, trivial⟩ (a5 (a5 (aZ (ogm rfl rfl (a7 (dt rfl rfl) rfl (ogm rfl rfl ?_))))))))
    refine fa 40 false rfl (fun c1 hgc1 => dQ [(10, _)] (dD rfl rfl rfl hgc1) ⟨fE rfl, trivial⟩ (fun hw1 => bY rfl) rfl (nI [(41, _)] (dD rfl rfl rfl hgc1) ⟨dJ rfl, trivial⟩ (fun hw2 => a8 (vs := [_]) rfl (qi _ (sg.drop 32) _ (fU (hvc.s8 hB) hlg) (lH hlg))) rfl ?_))
    rintro w9 k9
    obtain ⟨hB, hb2, hb4⟩ := ca k9 hB hb2 hb4
    refine dQ [(42, _)] (dD rfl rfl rfl hgc1) ⟨dJ rfl, trivial⟩ (fun hw3 => et rfl) rfl (a7 (fk rfl rfl hgc1) rfl (a6 (dK rfl (fun hc2 => ?_) (fun hc2 => ?_))))
    · -- yes
      have hd1 := hc2
      try (simp only [Bool.and_eq_true, Bool.or_eq_true, decide_eq_true_eq, Bool.and_eq_false_iff, Bool.or_eq_false_iff, decide_eq_false_iff_not, Bool.not_eq_true', Bool.not_eq_false', Bool.not_eq_true, Bool.not_eq_false, ne_eq, Decidable.not_not] at hd1)
      refine a5 (aZ (oga rfl rfl (a6 (a9 [(6, _)] ⟨rfl, trivial⟩ (bG hfin Tryz.results14 rfl ?_)))))
      exact ⟨by first | (rw [ne (by omega) (by omega) (by omega)]) | (rw [verX (by omega) (by omega) (by omega) (by simp_all)]), hB⟩
    · -- no
      have hd2 := hc2
      try (simp only [Bool.and_eq_true, Bool.or_eq_true, decide_eq_true_eq, Bool.and_eq_false_iff, Bool.or_eq_false_iff, decide_eq_false_iff_not, Bool.not_eq_true', Bool.not_eq_false', Bool.not_eq_true, Bool.not_eq_false, ne_eq, Decidable.not_not] at hd2)
      refine af (a5 ?_)
      have gs1 := hB.size
      have lt2 := hb4.lt
      refine fv 11 [0, 1, 2, 3, 4, 5, 6, 7, 8, 9] [4, 5, 6] [] [(10, 53, List.replicate 20 (.int .u64 0))] (x := 9) rfl mixed [(7, _), (9, _), (0, _), (1, _), (10, _), (11, _)] ⟨rfl, rfl, rfl, rfl, rfl, rfl, trivial⟩ (by decide +kernel) (by decide) (by decide) ?_ (fun x hx => by cases hx) rfl (fun w10 k10 => ?_)
      · simp only [List.forall_mem_cons]; exact ⟨⟨_, _, _, _, _, _, rfl, bx⟩, fun q hq => by cases hq⟩
      obtain ⟨hB, hb2, hb4⟩ := ca k10 hB hb2 hb4
      refine al 7 rfl rfl rfl rfl (fun W' kk => aa (cs' := iv .u64 20 hh1) dd bx rfl (Bk.s8 hb2 kk) rfl rfl) (bu 9 rfl rfl rfl rfl rfl (bu 0 rfl rfl rfl rfl rfl (bu 1 rfl rfl rfl rfl rfl (bo [(47, _), (48, _), (49, _)] rfl rfl ⟨rfl, rfl, rfl, trivial⟩ rfl (fun w12 k12 => ?_)))))
      obtain ⟨hB, hb2, hb4⟩ := ca k12 hB hb2 hb4
      refine (sH (m := 3) (ls := [(sg.take 32), pk, tx]) (xs := [.tmp 47, .tmp 48, .tmp 49]) (us := [_, _, _]) aX jj rfl rfl (ee (by first | exact Rd.nil _ _ | exact (by first | assumption | exact Own.rd (by assumption) | exact Rd.s8 (by assumption) hB | exact Own.rd (Own.s8 (by assumption) hB))) (ee (by first | exact Rd.nil _ _ | exact (by first | assumption | exact Own.rd (by assumption) | exact Rd.s8 (by assumption) hB | exact Own.rd (Own.s8 (by assumption) hB))) (ee (by first | exact Rd.nil _ _ | exact (by first | assumption | exact Own.rd (by assumption) | exact Rd.s8 (by assumption) hB | exact Own.rd (Own.s8 (by assumption) hB))) (ke _)))) rfl rfl).mono ?_
      rintro v1 w11 ⟨sl1, k11⟩
      refine ⟨k11, (fun x hx => ⟨.inr (sl1.vblk x (sl1.cblk ▸ hx)).1, (sl1.vblk x (sl1.cblk ▸ hx)).2⟩), ?_⟩
      obtain ⟨hB, hb4⟩ := bN k11 hB hb4
      refine bo [(50, _)] rfl rfl ⟨rfl, trivial⟩ rfl (fun w14 k14 => ?_)
      replace hb4 := hb4.s8 k14
      replace sl1 := sl1.s8 k14
      replace hB := hB.trans k14
      refine (a8 (vs := [_]) rfl (l8 _ (sg.take 32) pk tx _ _ (hT.s8 hB) sl1 (by have a := kT hlg; omega))).mono ?_
      rintro v2 w13 ⟨o2, k13⟩
      refine ⟨k13, (fun x hx => ⟨.inr (o2.blk x (o2.rd.cblk ▸ hx)).1, (o2.blk x (o2.rd.cblk ▸ hx)).2⟩), ?_⟩
      replace hb4 := hb4.s8 k13
      replace sl1 := sl1.s8 k13
      replace hB := hB.trans k13
      refine bo [(46, _), (51, _)] rfl rfl ⟨rfl, rfl, trivial⟩ rfl (fun w16 k16 => ?_)
      replace hb4 := hb4.s8 k16
      replace o2 := o2.s8 k16
      replace hB := hB.trans k16
      refine (a8 (vs := [_, _]) rfl (kR _ (dP pk) _ (hashB (sg.take 32 ++ pk ++ tx)) (E1 (by omega)) (mD (by omega)) _ o2.rd (fP _))).mono ?_
      rintro _ w15 ⟨hh3, rfl, E3, k15⟩
      refine ⟨k15, nox, ?_⟩
      replace hb4 := hb4.s8 k15
      replace o2 := o2.s8 k15
      replace hB := hB.trans k15
      refine bu 52 rfl rfl rfl rfl rfl (al 45 rfl rfl rfl rfl (fun W' kk => bH (vs := [_, _]) rfl rfl) (al 45 rfl rfl rfl rfl (fun W' kk => bH (vs := [_, _]) rfl rfl) (gw (fun w17 k17 => ?_))))
      replace hb4 := hb4.s8 k17
      replace o2 := o2.s8 k17
      replace hB := hB.trans k17
      intro b3 eb3 lb1 hb5 ds1 sp1
      have ge_b3 : w.heap.size ≤ b3 := Nat.le_trans gs1 eb3
      have ne_b2_b3 : b2 ≠ b3 := Nat.ne_of_lt (Nat.lt_of_lt_of_le lt2 eb3)
      replace hb5 : Bk w17 b3 53 (iv .u64 20 (fun _ => 0)) := by rw [iv, bE]; exact hb5
      have sb_b3_o2 := fun x (hx : x ∈ vblk v2) => sp1 5 (by decide) (by rfl) _ rfl x (by rw [Rd.cblk o2.rd]; exact hx)
      refine gE (tailx [(12, _), (53, _)] rfl ⟨rfl, rfl, trivial⟩ rfl (bh (vs := iv .u64 20 hh3) bx rfl rfl rfl ai hb5 rfl) ?_)
      rintro _ w18 ⟨hb6, k18, z5⟩
      replace hb4 := hb4.keep k18 (nm ne_b2_b3)
      replace o2 := o2.keep k18 (fun x hx hm => sb_b3_o2 x hx (List.mem_singleton.1 hm))
      replace hB := hB.new k18 (nw ge_b3)
      clear z5
      refine oga rfl rfl (a6 (a9 [(10, _), (11, _), (12, _)] ⟨rfl, rfl, rfl, trivial⟩ (a5 (a5 (bf 7 [0, 2, 3, 1, 4, 5, 6] [1, 4, 5] [] mixed [(10, _), (11, _), (12, _)] ⟨rfl, rfl, rfl, trivial⟩ (by decide +kernel) rfl (fun w19 k19 => ?_))))))
      replace hb4 := hb4.s8 k19
      replace o2 := o2.s8 k19
      obtain ⟨hB, hb6⟩ := bN k19 hB hb6
      refine bL 10 rfl rfl rfl rfl rfl (am 11 rfl rfl rfl rfl (fun W' kk => aa (cs' := iv .u64 20 hh2) dd bx rfl (Bk.s8 hb4 kk) rfl rfl) (am 12 rfl rfl rfl rfl (fun W' kk => aa (cs' := iv .u64 20 hh3) dd bx rfl (Bk.s8 hb6 kk) rfl rfl) (bq [(55, _)] rfl rfl ⟨rfl, trivial⟩ rfl (a8 (vs := [_]) rfl (g9 _ (sg.drop 32) _ (fU (hvc.s8 hB) hlg) (lH hlg))) ?_)))
      rintro _ w20 ⟨hh4, rfl, E4, k20⟩
      refine ⟨k20, ?_⟩
      replace o2 := o2.s8 k20
      replace hB := hB.trans k20
      refine bq [(57, _), (58, _)] rfl rfl ⟨rfl, rfl, trivial⟩ rfl (a8 (vs := [_, _]) rfl (PplusR (E2 (by omega)) E3 (mD (by omega)) (on_vn (by omega)) _)) ?_
      rintro _ w21 ⟨hh5, rfl, E5, k21⟩
      refine ⟨k21, ?_⟩
      replace o2 := o2.s8 k21
      replace hB := hB.trans k21
      refine bq [(56, _), (59, _)] rfl rfl ⟨rfl, rfl, trivial⟩ rfl (a8 (vs := [_, _]) rfl (ssame_g (b := (verP pk tx sg)) E4 E5 _)) ?_
      rintro _ w22 ⟨rfl, k22⟩
      refine ⟨k22, ?_⟩
      replace o2 := o2.s8 k22
      replace hB := hB.trans k22
      refine am 60 rfl rfl rfl rfl (fun W' kk => et rfl) (bz (a6 (bT rfl (fun hc3 => ?_) (fun hc3 => ?_))))
      · -- yes
        refine a5 (aZ (oga rfl rfl (a6 (a9 [(6, _)] ⟨rfl, trivial⟩ (bG hfin Tryz.results14 rfl ?_)))))
        exact ⟨by first | (rw [ne (by omega) (by omega) (by omega)]) | (rw [verX (by omega) (by omega) (by omega) (by simp_all)]), hB⟩
      · -- no
        refine af (a5 (aZ (oga rfl rfl (a6 (a9 [(6, _)] ⟨rfl, trivial⟩ (bG hfin Tryz.results14 rfl ?_))))))
        exact ⟨by rw [ver0 (by omega) (by omega) (by omega) (by simp_all)], hB⟩
theorem sver_no (va vb vc : Value) (pk tx sg : List UInt8) (w : World) (hva : RdB w va pk) (hvb : RdB w vb tx) (hvc : RdB w vc sg) (htl : tx.length ≤ 140737488351232) (hno : pk.length ≠ 32 ∨ sg.length ≠ 64) : Rets Tryz.prog 14 [va, vb, vc] w (fun r w' => r = .int .i64 (verE pk tx sg) ∧ Keep [] w w') := by
 have hB : Keep [] w w := Keep.refl _ _
 refine ac Tryz.func14 rfl (by decide) Tryz.ntmps14 rfl (fun fin _ hfin => a5 (aZ (oga rfl rfl (a6 (a5 (a5 (aZ (ogm rfl rfl (a7 (cB aA rfl (by first | assumption | exact Own.rd ‹_› | exact Rd.s8 ‹_› hB | exact Own.rd (Own.s8 ‹_› hB))) rfl (a7 (dt rfl rfl) rfl (ogm rfl rfl (fa 17 false rfl (fun c1 hgc1 => dQ [(2, _)] (dD rfl rfl rfl hgc1) ⟨fE rfl, trivial⟩ (fun hw1 => bY rfl) rfl (dQ [(18, _)] (dD rfl rfl rfl hgc1) ⟨dJ rfl, trivial⟩ (fun hw2 => cB aA rfl (by first | assumption | exact Own.rd ‹_› | exact Rd.s8 ‹_› hB | exact Own.rd (Own.s8 ‹_› hB))) rfl (dQ [(19, _)] (dD rfl rfl rfl hgc1) ⟨dJ rfl, trivial⟩ (fun hw3 => dt rfl rfl) rfl (a7 (fk rfl rfl hgc1) rfl ?_))))))))))))))))
 refine a6 (dK rfl (fun hc1 => ?_) (fun hc1 => ?_))
 ·
  have hd1 := hc1
  try (simp only [Bool.and_eq_true, Bool.or_eq_true, decide_eq_true_eq, Bool.and_eq_false_iff, Bool.or_eq_false_iff, decide_eq_false_iff_not, Bool.not_eq_true', Bool.not_eq_false', Bool.not_eq_true, Bool.not_eq_false, ne_eq, Decidable.not_not] at hd1)
  refine a5 (aZ (oga rfl rfl (a6 (a9 [(6, _)] ⟨rfl, trivial⟩ (bG hfin Tryz.results14 rfl ?_)))))
  exact ⟨by rw [ver1 hno], hB⟩
 ·
  have hd2 := hc1
  try (simp only [Bool.and_eq_true, Bool.or_eq_true, decide_eq_true_eq, Bool.and_eq_false_iff, Bool.or_eq_false_iff, decide_eq_false_iff_not, Bool.not_eq_true', Bool.not_eq_false', Bool.not_eq_true, Bool.not_eq_false, ne_eq, Decidable.not_not] at hd2)
  exact absurd hno (by first | omega | (simp_all))
theorem rver_no (va vb vc : Value) (pk tx sg : List UInt8) (w : World) (hva : RdB w va pk) (hvb : RdB w vb tx) (hvc : RdB w vc sg) (htl : tx.length ≤ 140737488351232) (hno : pk.length ≠ 32 ∨ sg.length ≠ 64) : Rets Tryz.prog 15 [va, vb, vc] w (fun r w' => r = .int .i64 (verE pk tx sg) ∧ Keep [] w w') := by
 have hB : Keep [] w w := Keep.refl _ _
 refine ac Tryz.func15 rfl (by decide) Tryz.ntmps15 rfl (fun fin _ hfin => a5 (aZ (oga rfl rfl (a6 (a5 (a5 (aZ (ogm rfl rfl (a7 (cB aA rfl (by first | assumption | exact Own.rd ‹_› | exact Rd.s8 ‹_› hB | exact Own.rd (Own.s8 ‹_› hB))) rfl (a7 (dt rfl rfl) rfl (ogm rfl rfl (fa 17 false rfl (fun c1 hgc1 => dQ [(2, _)] (dD rfl rfl rfl hgc1) ⟨fE rfl, trivial⟩ (fun hw1 => bY rfl) rfl (dQ [(18, _)] (dD rfl rfl rfl hgc1) ⟨dJ rfl, trivial⟩ (fun hw2 => cB aA rfl (by first | assumption | exact Own.rd ‹_› | exact Rd.s8 ‹_› hB | exact Own.rd (Own.s8 ‹_› hB))) rfl (dQ [(19, _)] (dD rfl rfl rfl hgc1) ⟨dJ rfl, trivial⟩ (fun hw3 => dt rfl rfl) rfl (a7 (fk rfl rfl hgc1) rfl ?_))))))))))))))))
 refine a6 (dK rfl (fun hc1 => ?_) (fun hc1 => ?_))
 ·
  have hd1 := hc1
  try (simp only [Bool.and_eq_true, Bool.or_eq_true, decide_eq_true_eq, Bool.and_eq_false_iff, Bool.or_eq_false_iff, decide_eq_false_iff_not, Bool.not_eq_true', Bool.not_eq_false', Bool.not_eq_true, Bool.not_eq_false, ne_eq, Decidable.not_not] at hd1)
  refine a5 (aZ (oga rfl rfl (a6 (a9 [(6, _)] ⟨rfl, trivial⟩ (bG hfin Tryz.results15 rfl ?_)))))
  exact ⟨by rw [ver1 hno], hB⟩
 ·
  have hd2 := hc1
  try (simp only [Bool.and_eq_true, Bool.or_eq_true, decide_eq_true_eq, Bool.and_eq_false_iff, Bool.or_eq_false_iff, decide_eq_false_iff_not, Bool.not_eq_true', Bool.not_eq_false', Bool.not_eq_true, Bool.not_eq_false, ne_eq, Decidable.not_not] at hd2)
  exact absurd hno (by first | omega | (simp_all))
theorem l5 (va vb vc : Value) (pk tx sg : List UInt8) (w : World) (hT : Tabs w) (hva : RdB w va pk) (hvb : RdB w vb tx) (hvc : RdB w vc sg) (htl : tx.length ≤ 140737488351232) : Rets Tryz.prog 14 [va, vb, vc] w (fun r w' => r = .int .i64 (verE pk tx sg) ∧ Keep [] w w') := by
  by_cases h : pk.length ≠ 32 ∨ sg.length ≠ 64
  · exact sver_no va vb vc pk tx sg w hva hvb hvc htl h
  · exact sver_64 va vb vc pk tx sg w hT hva hvb hvc htl (by omega) (by omega)
end Go.Proofs.YtllmbkmghmmhfaaGreatDoor.W
namespace Go.Proofs.YtllmbkmghmmhfaaGreatDoor.W
open Go Go.Eng Go.Byt
open Go.Fld Go.Ed
attribute [local irreducible] encB decE decX decY pmul padd leI
theorem rver_64 (va vb vc : Value) (pk tx sg : List UInt8) (w : World) (hva : RdB w va pk) (hvb : RdB w vb tx) (hvc : RdB w vc sg) (htl : tx.length ≤ 140737488351232) (hlp : pk.length = 32) (hlg : sg.length = 64) : Rets Tryz.prog 15 [va, vb, vc] w (fun r w' => r = .int .i64 (verE pk tx sg) ∧ Keep [] w w') := by
  have hB : Keep [] w w := Keep.refl _ _
  have hcT := gG hvc hlg
  have hcD := fU hvc hlg
  refine ac Tryz.func15 rfl (by decide) Tryz.ntmps15 rfl (fun fin _ hfin => a5 (aZ (oga rfl rfl (a6 (a5 (a5 (aZ (ogm rfl rfl ?_))))))))
  refine a7 (cB aA rfl (by first | assumption | exact Own.rd (by assumption) | exact Rd.s8 (by assumption) hB | exact Own.rd (Own.s8 (by assumption) hB))) rfl (a7 (dt rfl rfl) rfl (ogm rfl rfl (dO (grdT rfl rfl rfl (by simp [hlp])) (bY rfl) rfl (dO (grdT rfl rfl rfl (by simp [hlp])) (cB aA rfl (by first | assumption | exact Own.rd (by assumption) | exact Rd.s8 (by assumption) hB | exact Own.rd (Own.s8 (by assumption) hB))) rfl (dO (grdT rfl rfl rfl (by simp [hlp])) (dt rfl rfl) rfl (a7 (iw rfl (by simp [hlp]) rfl) rfl (a6 (ci rfl (by omega) ?_))))))))
  refine af (a5 (aZ (ogm rfl rfl (ad (a8 (vs := [_]) rfl (ge _ pk _ (hva.s8 hB) hlp)) rfl ?_))))
  rintro _ w1 ⟨hh1, rfl, E1, k1⟩
  replace hB := hB.trans k1
  refine ogm rfl rfl (a7 (bH (vs := [_, _]) rfl rfl) rfl (a7 (bH (vs := [_, _]) rfl rfl) rfl (ad (aj ct) rfl ?_)))
  rintro _ w2 ⟨b1, rfl, eb1, hb1, k2, z1⟩
  have ge_b1 : w.heap.size ≤ b1 := by have := hB.size; omega
  replace hB := hB.trans k2
  clear eb1 z1
  replace hb1 : Bk w2 b1 67 (iv .i64 64 (fun _ => 0)) := by rw [iv, bE]; exact hb1
  refine ae (bh (vs := iv .i64 64 hh1) ct rfl rfl rfl ai hb1 rfl) ?_
  rintro _ w3 ⟨hb2, k3, z2⟩
  replace hB := hB.new k3 (nw ge_b1)
  clear z2
  refine oga rfl rfl (a6 (a9 [(0, _), (1, _), (2, _), (7, _), (8, _)] ⟨rfl, rfl, rfl, rfl, rfl, trivial⟩ (a5 (a5 (aZ (ogm rfl rfl (a7 (dt rfl rfl) rfl (a6 ?_))))))))
  refine bT rfl (fun hc1 => ?_) (fun hc1 => ?_)
  · -- yes
    refine a5 (aZ (oga rfl rfl (a6 (bG hfin Tryz.results15 rfl ?_))))
    exact ⟨by rw [ver30 (by omega) (by omega)], hB⟩
  · -- no
    refine af (a5 (aZ (ogm rfl rfl (a7 (cN (v' := (cut vc 0 32 1)) (fo aA cg rfl (hvc.s8 hB) (.inl ⟨rfl, rfl⟩) (.inr ⟨_, _, rfl, rfl⟩) (by have := hvc.vcap.1; omega)) rfl) rfl (ad (a8 (vs := [_]) rfl (ge _ (sg.take 32) _ (gG (hvc.s8 hB) hlg) (kT hlg))) rfl ?_)))))
    rintro _ w4 ⟨hh2, rfl, E2, k4⟩
    obtain ⟨hB, hb2⟩ := bN k4 hB hb2
    refine ogm rfl rfl (a7 (bH (vs := [_, _]) rfl rfl) rfl (a7 (bH (vs := [_, _]) rfl rfl) rfl (ad (aj ct) rfl ?_)))
    rintro _ w5 ⟨b2, rfl, eb2, hb3, k5, z3⟩
    have ge_b2 : w.heap.size ≤ b2 := by have := hB.size; omega
    have ne_b1_b2 : b1 ≠ b2 := by have := hb2.lt; omega
    obtain ⟨hB, hb2⟩ := bN k5 hB hb2
    clear eb2 z3
    replace hb3 : Bk w5 b2 67 (iv .i64 64 (fun _ => 0)) := by rw [iv, bE]; exact hb3
    refine ae (bh (vs := iv .i64 64 hh2) ct rfl rfl rfl ai hb3 rfl) ?_
    rintro _ w6 ⟨hb4, k6, z4⟩
    replace hb2 := hb2.keep k6 (nm ne_b1_b2)
    replace hB := hB.new k6 (nw ge_b2)
    clear z4
    refine oga rfl rfl (a6 (a5 (a5 (aZ (ogm rfl rfl (a7 (dt rfl rfl) rfl (ogm rfl rfl (fa 37 false rfl (fun c1 hgc1 => ?_)))))))))
    refine dQ [(2, _)] (dD rfl rfl rfl hgc1) ⟨fE rfl, trivial⟩ (fun hw1 => bY rfl) rfl (dQ [(38, _)] (dD rfl rfl rfl hgc1) ⟨dJ rfl, trivial⟩ (fun hw2 => cN (v' := (cut vc 32 64 1)) (fo aA cg rfl (hvc.s8 hB) (.inr ⟨_, _, rfl, rfl⟩) (.inl ⟨rfl, rfl⟩) (by have := hvc.vcap.1; omega)) (by rw [show ((sg.length : Nat) : Int).toNat = 64 from by omega]; rfl)) rfl (nI [(39, _)] (dD rfl rfl rfl hgc1) ⟨dJ rfl, trivial⟩ (fun hw3 => a8 (vs := [_]) rfl (qw _ (sg.drop 32) _ (fU (hvc.s8 hB) hlg) (lH hlg))) rfl ?_))
    rintro w8 k8
    obtain ⟨hB, hb2, hb4⟩ := ca k8 hB hb2 hb4
    refine dQ [(40, _)] (dD rfl rfl rfl hgc1) ⟨dJ rfl, trivial⟩ (fun hw4 => et rfl) rfl (a7 (fk rfl rfl hgc1) rfl (a6 (a9 [(0, _), (1, _), (2, _), (7, _), (9, _), (42, _)] ⟨rfl, rfl, rfl, rfl, rfl, rfl, trivial⟩ (dK rfl (fun hc2 => ?_) (fun hc2 => ?_)))))
    · -- yes
      have hd1 := hc2
      try (simp only [Bool.and_eq_true, Bool.or_eq_true, decide_eq_true_eq, Bool.and_eq_false_iff, Bool.or_eq_false_iff, decide_eq_false_iff_not, Bool.not_eq_true', Bool.not_eq_false', Bool.not_eq_true, Bool.not_eq_false, ne_eq, Decidable.not_not] at hd1)
      refine a5 (aZ (oga rfl rfl (a6 (bG hfin Tryz.results15 rfl ?_))))
      exact ⟨by first | (rw [ne (by omega) (by omega) (by omega)]) | (rw [verX (by omega) (by omega) (by omega) (by simp_all)]), hB⟩
    · -- no
      have hd2 := hc2
      try (simp only [Bool.and_eq_true, Bool.or_eq_true, decide_eq_true_eq, Bool.and_eq_false_iff, Bool.or_eq_false_iff, decide_eq_false_iff_not, Bool.not_eq_true', Bool.not_eq_false', Bool.not_eq_true, Bool.not_eq_false, ne_eq, Decidable.not_not] at hd2)
      refine af (a5 ?_)
      have gs1 := hB.size
      have lt2 := hb4.lt
      refine fv 11 [0, 1, 2, 3, 4, 5, 6, 7, 8, 9] [5, 6] [] [(10, 67, List.replicate 64 (.int .i64 0))] (x := 9) rfl mixed [(7, _), (2, _), (0, _), (1, _), (9, _)] ⟨rfl, rfl, rfl, rfl, rfl, trivial⟩ (by decide +kernel) (by decide) (by decide) ?_ (fun x hx => by cases hx) rfl (fun w9 k9 => ?_)
      · simp only [List.forall_mem_cons]; exact ⟨⟨_, _, _, _, _, _, rfl, ct⟩, fun q hq => by cases hq⟩
      obtain ⟨hB, hb2, hb4⟩ := ca k9 hB hb2 hb4
      refine al 7 rfl rfl rfl rfl (fun W' kk => aa (cs' := iv .i64 64 hh1) fW ct rfl (Bk.s8 hb2 kk) rfl rfl) (bu 2 rfl rfl rfl rfl rfl (al 45 rfl rfl rfl rfl (fun W' kk => cN (v' := (cut vc 0 32 1)) (fo aA cg rfl (hvc.s8 (hB.trans kk.weak)) (.inl ⟨rfl, rfl⟩) (.inr ⟨_, _, rfl, rfl⟩) (by have := hvc.vcap.1; omega)) rfl) (bu 0 rfl rfl rfl rfl rfl (bu 1 rfl rfl rfl rfl rfl (bo [(46, _), (47, _), (48, _)] rfl rfl ⟨rfl, rfl, rfl, trivial⟩ rfl (fun w11 k11 => ?_))))))
      obtain ⟨hB, hb4⟩ := bN k11 hB hb4
      refine (a8 (vs := [_, _, _]) rfl (pQ _ _ _ (sg.take 32) pk tx _ (gG (hvc.s8 hB) hlg) (hva.s8 hB) (hvb.s8 hB) (by have a := kT hlg; omega))).mono ?_
      rintro v1 w10 ⟨o1, k10⟩
      refine ⟨k10, (fun x hx => ⟨.inr (o1.blk x (o1.rd.cblk ▸ hx)).1, (o1.blk x (o1.rd.cblk ▸ hx)).2⟩), ?_⟩
      obtain ⟨hB, hb4⟩ := bN k10 hB hb4
      refine bo [(44, _), (49, _)] rfl rfl ⟨rfl, rfl, trivial⟩ rfl (fun w13 k13 => ?_)
      replace hb4 := hb4.s8 k13
      replace o1 := o1.s8 k13
      replace hB := hB.trans k13
      refine (a8 (vs := [_, _]) rfl (rtimesR _ (dP pk) _ (hashB (sg.take 32 ++ pk ++ tx)) (E1 (by omega)) (mD (by omega)) _ o1.rd (fP _))).mono ?_
      rintro _ w12 ⟨hh3, rfl, E3, k12⟩
      refine ⟨k12, nox, ?_⟩
      replace hb4 := hb4.s8 k12
      replace o1 := o1.s8 k12
      replace hB := hB.trans k12
      refine bu 50 rfl rfl rfl rfl rfl (al 43 rfl rfl rfl rfl (fun W' kk => bH (vs := [_, _]) rfl rfl) (al 43 rfl rfl rfl rfl (fun W' kk => bH (vs := [_, _]) rfl rfl) (gw (fun w14 k14 => ?_))))
      replace hb4 := hb4.s8 k14
      replace o1 := o1.s8 k14
      replace hB := hB.trans k14
      intro b3 eb3 lb1 hb5 ds1 sp1
      have ge_b3 : w.heap.size ≤ b3 := Nat.le_trans gs1 eb3
      have ne_b2_b3 : b2 ≠ b3 := Nat.ne_of_lt (Nat.lt_of_lt_of_le lt2 eb3)
      replace hb5 : Bk w14 b3 67 (iv .i64 64 (fun _ => 0)) := by rw [iv, bE]; exact hb5
      have sb_b3_o1 := fun x (hx : x ∈ vblk v1) => sp1 5 (by decide) (by rfl) _ rfl x (by rw [Rd.cblk o1.rd]; exact hx)
      refine gE (tailx [(11, _), (51, _)] rfl ⟨rfl, rfl, trivial⟩ rfl (bh (vs := iv .i64 64 hh3) ct rfl rfl rfl ai hb5 rfl) ?_)
      rintro _ w15 ⟨hb6, k15, z5⟩
      replace hb4 := hb4.keep k15 (nm ne_b2_b3)
      replace o1 := o1.keep k15 (fun x hx hm => sb_b3_o1 x hx (List.mem_singleton.1 hm))
      replace hB := hB.new k15 (nw ge_b3)
      clear z5
      refine oga rfl rfl (a6 (a9 [(2, _), (9, _), (11, _)] ⟨rfl, rfl, rfl, trivial⟩ (a5 ?_)))
      have gs2 := hB.size
      have lt4 := fun x hx => (o1.blk x hx).2
      refine bW 5 [0, 1, 2, 3] [2, 3] [] [(4, 67, List.replicate 64 (.int .i64 0))] mixed [(9, _), (11, _), (2, _)] ⟨rfl, rfl, rfl, trivial⟩ (by decide +kernel) (by decide) (by decide) ?_ (fun x hx => by cases hx) rfl (fun w16 k16 => ?_)
      · simp only [List.forall_mem_cons]; exact ⟨⟨_, _, _, _, _, _, rfl, ct⟩, fun q hq => by cases hq⟩
      replace hb4 := hb4.s8 k16
      replace o1 := o1.s8 k16
      obtain ⟨hB, hb6⟩ := bN k16 hB hb6
      refine al 9 rfl rfl rfl rfl (fun W' kk => aa (cs' := iv .i64 64 hh2) fW ct rfl (Bk.s8 hb4 kk) rfl rfl) (al 11 rfl rfl rfl rfl (fun W' kk => aa (cs' := iv .i64 64 hh3) fW ct rfl (Bk.s8 hb6 kk) rfl rfl) (bo [] rfl rfl trivial rfl (fun w18 k18 => ?_)))
      replace o1 := o1.s8 k18
      replace hB := hB.trans k18
      refine (a8 (vs := []) rfl (nB _)).mono ?_
      rintro _ w17 ⟨hh4, rfl, E4, k17⟩
      refine ⟨k17, nox, ?_⟩
      replace o1 := o1.s8 k17
      replace hB := hB.trans k17
      refine bo [(53, _), (54, _), (55, _)] rfl rfl ⟨rfl, rfl, rfl, trivial⟩ rfl (fun w20 k20 => ?_)
      replace o1 := o1.s8 k20
      replace hB := hB.trans k20
      refine (a8 (vs := [_, _, _]) rfl (rplusR (E2 (by omega)) E3 (mD (by omega)) (on_vn (by omega)) E4 _)).mono ?_
      rintro _ w19 ⟨hh5, rfl, E5, k19⟩
      refine ⟨k19, nox, ?_⟩
      replace o1 := o1.s8 k19
      replace hB := hB.trans k19
      refine cC (fun w21 k21 => ?_)
      replace o1 := o1.s8 k21
      replace hB := hB.trans k21
      intro b4 eb4 lb2 hb7 ds2 sp2
      have ge_b4 : w.heap.size ≤ b4 := Nat.le_trans gs2 eb4
      have sb_b4_o1 := fun x hx => (Nat.ne_of_lt (Nat.lt_of_lt_of_le (lt4 x hx) eb4))
      replace hb7 : Bk w21 b4 67 (iv .i64 64 (fun _ => 0)) := by rw [iv, bE]; exact hb7
      refine bX (ae (bh (vs := iv .i64 64 hh5) ct rfl rfl rfl ai hb7 rfl) ?_)
      rintro _ w22 ⟨hb8, k22, z6⟩
      replace o1 := o1.keep k22 (fun x hx hm => sb_b4_o1 x hx (List.mem_singleton.1 hm))
      replace hB := hB.new k22 (nw ge_b4)
      clear z6
      refine a6 (a5 (a5 (bf 8 [0, 1, 4, 2, 3, 5, 6, 7] [2, 5] [] mixed [(2, _), (13, _)] ⟨rfl, rfl, trivial⟩ (by decide +kernel) rfl (fun w23 k23 => ?_))))
      replace o1 := o1.s8 k23
      obtain ⟨hB, hb8⟩ := bN k23 hB hb8
      refine bL 2 rfl rfl rfl rfl rfl (am 57 rfl rfl rfl rfl (fun W' kk => cN (v' := (cut vc 32 64 1)) (fo aA cg rfl (hvc.s8 (hB.trans kk.weak)) (.inr ⟨_, _, rfl, rfl⟩) (.inl ⟨rfl, rfl⟩) (by have := hvc.vcap.1; omega)) (by rw [show ((sg.length : Nat) : Int).toNat = 64 from by omega]; rfl)) (am 13 rfl rfl rfl rfl (fun W' kk => aa (cs' := iv .i64 64 hh5) fW ct rfl (Bk.s8 hb8 kk) rfl rfl) (bq [(58, _)] rfl rfl ⟨rfl, trivial⟩ rfl (a8 (vs := [_]) rfl (mv _ (sg.drop 32) _ (fU (hvc.s8 hB) hlg) (lH hlg))) ?_)))
      rintro v2 w24 ⟨o2, k24⟩
      refine ⟨k24, ?_⟩
      replace o1 := o1.s8 k24
      replace hB := hB.trans k24
      refine am 59 rfl rfl rfl rfl (fun W' kk => gC aA aH aT rfl (o2.s8 kk).rd) (bq [(61, _)] rfl rfl ⟨rfl, trivial⟩ rfl (a8 (vs := [_]) rfl (rencodeR (a := (verP pk tx sg)) E5 _)) ?_)
      rintro v3 w25 ⟨o3, k25⟩
      refine ⟨k25, ?_⟩
      replace o1 := o1.s8 k25
      replace o2 := o2.s8 k25
      replace hB := hB.trans k25
      refine am 62 rfl rfl rfl rfl (fun W' kk => gC aA aH aT rfl (o3.s8 kk).rd) (cF 60 63 rfl rfl rfl rfl rfl (fun W' kk => g_nes rfl rfl) (bz (a6 (bT rfl (fun hc3 => ?_) (fun hc3 => ?_)))))
      · -- yes
        refine a5 (aZ (oga rfl rfl (a6 (a9 [(6, _)] ⟨rfl, trivial⟩ (bG hfin Tryz.results15 rfl ?_)))))
        exact ⟨by first | (rw [ne (by omega) (by omega) (by omega)]) | (rw [verX (by omega) (by omega) (by omega) (by simp_all)]), hB⟩
      · -- no
        refine af (a5 (aZ (oga rfl rfl (a6 (a9 [(6, _)] ⟨rfl, trivial⟩ (bG hfin Tryz.results15 rfl ?_))))))
        exact ⟨by rw [ver0 (by omega) (by omega) (by omega) (by simp_all)], hB⟩
theorem qj (va vb vc : Value) (pk tx sg : List UInt8) (w : World) (hva : RdB w va pk) (hvb : RdB w vb tx) (hvc : RdB w vc sg) (htl : tx.length ≤ 140737488351232) : Rets Tryz.prog 15 [va, vb, vc] w (fun r w' => r = .int .i64 (verE pk tx sg) ∧ Keep [] w w') := by
  by_cases h : pk.length ≠ 32 ∨ sg.length ≠ 64
  · exact rver_no va vb vc pk tx sg w hva hvb hvc htl h
  · exact rver_64 va vb vc pk tx sg w hva hvb hvc htl (by omega) (by omega)
end Go.Proofs.YtllmbkmghmmhfaaGreatDoor.W
namespace Go.Proofs.YtllmbkmghmmhfaaGreatDoor.W
open Go Go.Eng Go.Byt Go.Fld Go.Ed
def frc {α : Type} (n : Nat) (k : Nat → α) : α := match n with
 | 0 => k 0
 | m + 1 => k (m + 1)
theorem frc_eq {α : Type} (n : Nat) (k : Nat → α) : frc n k = k n := by cases n <;> rfl
abbrev E4 := Nat × Nat × Nat × Nat
def dN : Nat := 37095705934669439343138083508754565189542113879843219016388785533085940283555
def eaddN (p q : E4) : E4 :=
 frc (p.1 * q.1 % P) fun A => frc (p.2.1 * q.2.1 % P) fun B => frc (p.2.2.2 * q.2.2.2 % P * dN % P) fun C => frc (p.2.2.1 * q.2.2.1 % P) fun D =>
 frc ((p.1 * q.2.1 + p.2.1 * q.1) % P) fun E => frc ((D + (P - 1) * C) % P) fun F => frc ((D + C) % P) fun G => frc ((B + A) % P) fun H =>
 frc (E * F % P) fun X => frc (G * H % P) fun Y => frc (F * G % P) fun Z => frc (E * H % P) fun T => (X, Y, Z, T)
def baseN : E4 := (15112221349535400772501151409588531511454012693041857206046113283949847762202, 46316835694926478169428394003475163141307993866256225615783033603165251855960, 1, 15112221349535400772501151409588531511454012693041857206046113283949847762202 * 46316835694926478169428394003475163141307993866256225615783033603165251855960 % P)
def emulN : Nat → Nat → E4
 | 0, _ => (0, 1, 1, 0)
 | f + 1, n => match emulN f (n / 2) with
   | (X, Y, Z, T) => bif Nat.beq (n % 2) 1 then eaddN (eaddN (X, Y, Z, T) (X, Y, Z, T)) baseN else eaddN (X, Y, Z, T) (X, Y, Z, T)
theorem P_pos : 0 < P := by decide
def fN (n : Nat) : Fp := ⟨n % P, Nat.mod_lt _ P_pos⟩
theorem nT (n : Nat) : fN (n % P) = fN n := Fin.ext (Nat.mod_mod _ _)
theorem rt (a b : Nat) : fN (a * b) = fN a * fN b := Fin.ext (by rw [ik]; exact Nat.mul_mod _ _ _)
theorem fN_add (a b : Nat) : fN (a + b) = fN a + fN b := Fin.ext (by rw [nf]; exact Nat.add_mod _ _ _)
theorem fN_neg (a c : Fp) : a + fN (P - 1) * c = a - c := by
 have h : fN (P - 1) = -1 := by decide +kernel
 rw [h]
 grind -lia -linarith
theorem fN_d : fN dN = d := by decide +kernel
def RepN (p : E4) (a : Pt) : Prop := Rep (fN p.1) (fN p.2.1) (fN p.2.2.1) (fN p.2.2.2) a
theorem lv {p q : E4} {a b : Pt} (ha : OnP a) (hb : OnP b) (hp : RepN p a) (hq : RepN q b) : RepN (eaddN p q) (padd a b) := by
 have h := lr ha hb hp hq
 unfold RepN eaddN
 simp only [frc_eq, nT, rt, fN_add, fN_neg, fN_d]
 have e1 : fN p.1 * fN q.2.1 + fN p.2.1 * fN q.1 = (fN p.1 + fN p.2.1) * (fN q.1 + fN q.2.1) - fN p.1 * fN q.1 - fN p.2.1 * fN q.2.1 := by grind -lia -linarith
 rw [e1]
 exact h
theorem pW : RepN baseN basePt := by
 refine ⟨by decide +kernel, ?_, ?_, ?_⟩ <;> decide +kernel
theorem pV : RepN (0, 1, 1, 0) zero := by
 refine ⟨by decide +kernel, ?_, ?_, ?_⟩ <;> decide +kernel
theorem jH : ∀ (f n : Nat), n < 2 ^ f → RepN (emulN f n) (pmul n basePt)
 | 0, n, h => by
   have : n = 0 := by simpa using h
   subst this; exact pV
 | f + 1, n, h => by
   have ih := jH f (n / 2) (by rw [Nat.pow_succ] at h; omega)
   unfold emulN
   generalize emulN f (n / 2) = q at ih
   obtain ⟨X, Y, Z, T⟩ := q
   have h2 := lv (dY du _) (dY du _) ih ih
   rw [fy du] at h2
   simp only
   cases hb : Nat.beq (n % 2) 1 with
   | true =>
     have e := Nat.eq_of_beq_eq_true hb
     have h3 := lv (dY du _) du h2 pW
     rw [cond_true, show n = n / 2 * 2 + 1 by omega, eB du, lx]
     exact h3
   | false =>
     have e : n % 2 ≠ 1 := fun e => by
       have : Nat.beq (n % 2) 1 = true := by rw [e]; rfl
       rw [this] at hb; cases hb
     rw [cond_false]
     rwa [show n / 2 * 2 = n by omega] at h2
def ordL : Nat := 7237005577332262213973186563042994240857116359379907606001950938285454250989
theorem emul_L : (emulN 253 ordL).1 = 0 ∧ (emulN 253 ordL).2.1 = (emulN 253 ordL).2.2.1 := by decide +kernel
theorem pmul_L : pmul ordL basePt = zero := by
 obtain ⟨hz, hx, hy, _⟩ := jH 253 ordL (by decide)
 obtain ⟨e1, e2⟩ := emul_L
 rw [e1] at hx
 rw [e2] at hy
 have h0 : fN 0 = 0 := by decide
 rw [h0] at hx
 have x0 : (pmul ordL basePt).1 = 0 := by
   rcases eO hx.symm with h | h
   · exact h
   · exact absurd h hz
 have y1 : (pmul ordL basePt).2 = 1 := by
   refine gg hz ?_
   rw [← hy]
   generalize fN (emulN 253 ordL).2.2.1 = q
   grind -lia -linarith
 exact Prod.ext x0 y1
theorem rC (n : Nat) : pmul (n % ordL) basePt = pmul n basePt := by
 have e : pmul n basePt = pmul (n % ordL + ordL * (n / ordL)) basePt := by rw [Nat.mod_add_div]
 rw [e, eB du, jM du, pmul_L, p6, eC]
theorem i4_sq : fpow 2 14474011154664524427946373126085988481658748083205070504932198000989141204987 * fpow 2 14474011154664524427946373126085988481658748083205070504932198000989141204987 = (-1 : Fp) := by
 rw [← d7]
 apply Fin.ext
 rw [lE _ _ (by decide +kernel)]
 decide +kernel
theorem quarter {x : Fp} (hx : x ≠ 0) : ep (x * x) * ep (x * x) * (ep (x * x) * ep (x * x)) = (x * x) * (x * x) := by
 have h2 : x * x = fpow x 2 := by show x * x = 1 * x * x; rw [Fin.one_mul]
 have h4 : fpow x 4 = (x * x) * (x * x) := by rw [show (4 : Nat) = 2 + 2 from rfl, d7, ← h2]
 unfold ep
 rw [← h4, h2, ← iC, ← d7, ← d7, show 2 * 7237005577332262213973186563042994240829374041602535252466099000494570602494 + 2 * 7237005577332262213973186563042994240829374041602535252466099000494570602494 + (2 * 7237005577332262213973186563042994240829374041602535252466099000494570602494 + 2 * 7237005577332262213973186563042994240829374041602535252466099000494570602494) = (P - 1) + 4 from by decide +kernel, d7, fermat hx, Fin.one_mul]
theorem qp (x : Fp) : cw (x * x) * cw (x * x) = x * x := by
 unfold cw
 by_cases hq : ep (x * x) * ep (x * x) = x * x
 · rw [if_pos hq]; exact hq
 · rw [if_neg hq]
   by_cases hx : x = 0
   · exfalso
     subst hx
     refine hq ?_
     have e : (0 : Fp) * 0 = 0 := Fin.zero_mul _
     rw [e]
     unfold ep
     rw [show 7237005577332262213973186563042994240829374041602535252466099000494570602494 = 7237005577332262213973186563042994240829374041602535252466099000494570602493 + 1 from rfl, fpow, Fin.mul_zero]
     exact e
   · have h4 := quarter hx
     have hi := i4_sq
     generalize ep (x * x) = r at *
     generalize fpow 2 14474011154664524427946373126085988481658748083205070504932198000989141204987 = i at *
     have hz : (r * r - x * x) * (r * r + x * x) = 0 := by grind -lia -linarith
     rcases eO hz with h | h
     · exact absurd (by grind -lia -linarith) hq
     · grind -lia -linarith
theorem nP (y : Fp) : In (gb (fpB y) 31) 0 127 := by
 have h : y.val < 57896044618658097711785492504343953926634992332820282019728792003956564819949 := y.isLt
 unfold gb fpB
 rw [show (31 : Int).toNat = 31 from rfl, List.getD_eq_getElem?_getD, kt _ 32 31 (by decide)]
 simp only [Option.getD_some]
 have hp : (256 : Int) ^ 31 = 452312848583266388373324160190187140051835877600158453279131187530910662656 := by decide +kernel
 rw [hp]
 have hb : (y.val : Int) / 452312848583266388373324160190187140051835877600158453279131187530910662656 < 128 := by omega
 have hb0 : 0 ≤ (y.val : Int) / 452312848583266388373324160190187140051835877600158453279131187530910662656 := by omega
 generalize (y.val : Int) / 452312848583266388373324160190187140051835877600158453279131187530910662656 = q at *
 unfold In
 simp
 omega
theorem me {g s : Int} (hg : In g 0 127) (hs : In s 0 255) : In (bits .or .u8 g (IntKind.u8.wrap (s * 128))) 0 255 ∧ bits .andNot .u8 (bits .or .u8 g (IntKind.u8.wrap (s * 128))) 128 = g ∧ (bits .or .u8 g (IntKind.u8.wrap (s * 128)) / 128 = 1 ↔ s % 2 = 1) := by
 have k1 : ∀ n : Fin 256, IntKind.u8.wrap ((n.val : Int) * 128) = if n.val % 2 = 1 then 128 else 0 := by decide +kernel
 have k2 : ∀ n : Fin 128, (0 ≤ bits .or .u8 (n.val : Int) 128 ∧ bits .or .u8 (n.val : Int) 128 ≤ 255) ∧ bits .andNot .u8 (bits .or .u8 (n.val : Int) 128) 128 = (n.val : Int) ∧ bits .or .u8 (n.val : Int) 128 / 128 = 1 := by decide +kernel
 have k3 : ∀ n : Fin 128, (0 ≤ bits .or .u8 (n.val : Int) 0 ∧ bits .or .u8 (n.val : Int) 0 ≤ 255) ∧ bits .andNot .u8 (bits .or .u8 (n.val : Int) 0) 128 = (n.val : Int) ∧ bits .or .u8 (n.val : Int) 0 / 128 ≠ 1 := by decide +kernel
 unfold In at hg hs
 have e1 := k1 ⟨s.toNat, by omega⟩
 have e2 := k2 ⟨g.toNat, by omega⟩
 have e3 := k3 ⟨g.toNat, by omega⟩
 simp only at e1 e2 e3
 rw [show ((s.toNat : Nat) : Int) = s by omega] at e1
 rw [show ((g.toNat : Nat) : Int) = g by omega] at e2 e3
 rw [e1]
 by_cases hc : s % 2 = 1
 · rw [if_pos (by omega)]; exact ⟨e2.1, e2.2.1, fun _ => hc, fun _ => e2.2.2⟩
 · rw [if_neg (by omega)]; exact ⟨e3.1, e3.2.1, fun h => absurd h e3.2.2, fun h => absurd h hc⟩
theorem odd_gb (x : Fp) : gb (fpB x) 0 % 2 = 1 ↔ oddF x := by
 have ho := odd0 x
 rw [cL (k := .u8) (a := 0) (b := 255) 1 (c := 1) (m := 2) (cG _ _) rfl rfl rfl rfl rfl rfl] at ho
 exact ho
theorem oT (x y : Fp) : gb (encB x y) 31 = bits .or .u8 (gb (fpB y) 31) (IntKind.u8.wrap (gb (fpB x) 0 * 128)) := by
 have h := (me (nP y) (cG (fpB x) 0)).1
 unfold encB
 generalize bits .or .u8 (gb (fpB y) 31) (IntKind.u8.wrap (gb (fpB x) 0 * 128)) = q at *
 unfold gb
 rw [show (31 : Int).toNat = 31 from rfl, List.getD_eq_getElem?_getD, List.getElem?_set_self (by rw [bJ]; decide)]
 simp only [Option.getD_some]
 unfold In at h
 simp
 omega
theorem oU (x y : Fp) : decLow (encB x y) = fpB y := by
 have h := (me (nP y) (cG (fpB x) 0)).2.1
 have hl := bJ y
 unfold decLow
 rw [oT, h]
 unfold encB
 rw [List.set_set]
 have e : UInt8.ofNat (gb (fpB y) 31).toNat = (fpB y)[31]'(by omega) := by
   unfold gb
   rw [show (31 : Int).toNat = 31 from rfl, List.getD_eq_getElem?_getD, List.getElem?_eq_getElem (by omega)]
   simp
 rw [e, List.set_getElem_self]
theorem enc_y (x y : Fp) : decY (encB x y) = y := by unfold decY; rw [oU, ff]
theorem enc_odd (x y : Fp) : decOdd (encB x y) = true ↔ oddF x := by
 unfold decOdd
 rw [decide_eq_true_eq, oT, (me (nP y) (cG (fpB x) 0)).2.2, odd_gb]
theorem enc_q {x y : Fp} (h : On x y) : decU y * inv (decV y) = x * x := by
 have hi := ce (lJ y)
 unfold On at h
 rw [j9]
 rw [i0] at hi ⊢
 generalize inv (d * (y * y) + 1) = i at *
 generalize d = q at *
 have e : y * y - 1 = x * x * (q * (y * y) + 1) := by grind -lia -linarith
 rw [e]
 grind -lia -linarith
theorem nV {x y : Fp} (h : On x y) : rootOk (decU y) (decV y) = true := by
 unfold rootOk
 rw [enc_q h, decide_eq_true (qp x), decide_eq_false (lJ y)]; rfl
theorem ry {x y : Fp} (h : On x y) : (oddF x → x = 0 - rootF (decU y) (decV y)) ∧ (¬ oddF x → x = rootF (decU y) (decV y)) := by
 have h1 := nt (nV h)
 have h2 := pO (nV h)
 rw [enc_q h] at h1
 generalize rootF (decU y) (decV y) = r at *
 have hz : (r - x) * (r + x) = 0 := by grind -lia -linarith
 rcases eO hz with e | e
 · have : x = r := by grind -lia -linarith
   subst this
   exact ⟨fun ho => absurd ho h2, fun _ => rfl⟩
 · have hx : x = 0 - r := by grind -lia -linarith
   refine ⟨fun _ => hx, fun ho => ?_⟩
   by_cases hr : r.val = 0
   · have : r = 0 := Fin.ext hr
     rw [hx, this]; grind -lia -linarith
   · exfalso
     have := oA r hr
     unfold oddF at ho h2
     rw [hx] at ho
     omega
theorem enc_dec {a : Pt} (h : OnP a) : decE (encB a.1 a.2) = 0 ∧ decX (encB a.1 a.2) = a.1 ∧ decY (encB a.1 a.2) = a.2 := by
 obtain ⟨x, y⟩ := a
 have hl : (encB x y).length = 32 := by unfold encB; rw [List.length_set, bJ]
 obtain ⟨hr1, hr2⟩ : (oddF x → x = 0 - rootF (decU y) (decV y)) ∧ (¬ oddF x → x = rootF (decU y) (decV y)) := ry h
 show decE (encB x y) = 0 ∧ decX (encB x y) = x ∧ decY (encB x y) = y
 have hy := enc_y x y
 have ho := enc_odd x y
 refine ⟨?_, ?_, hy⟩
 · unfold decE
   rw [if_neg (by omega), hy, if_neg (by rw [oU]; simp), nV h]
   rw [if_neg]
   simp only [Bool.not_true, Bool.false_or, Bool.and_eq_true, decide_eq_true_eq, not_and]
   intro h1 h2
   have hx := hr1 (ho.1 h1)
   rw [h2] at hx
   have hx : x = 0 := by rw [hx]; grind -lia -linarith
   have := ho.1 h1
   rw [hx] at this
   exact absurd this (by decide)
 · unfold decX
   rw [hy]
   by_cases hc : decOdd (encB x y) = true
   · rw [if_pos hc]; exact (hr1 (ho.1 hc)).symm
   · rw [if_neg hc]; exact (hr2 (fun h => hc (ho.2 h))).symm
end Go.Proofs.YtllmbkmghmmhfaaGreatDoor.W
namespace Go.Sha
open Go Go.Eng Go.Byt
section
variable {n : Nat}
def frB {α : Type} (x : BitVec n) (k : BitVec n → α) : α := match x.toNat with
 | 0 => k (BitVec.ofNat n 0)
 | m + 1 => k (BitVec.ofNat n (m + 1))
theorem lD {α : Type} (x : BitVec n) (k : BitVec n → α) : frB x k = k x := by
 have h : BitVec.ofNat n x.toNat = x := by simp
 unfold frB
 split
 · next e => rw [e] at h; rw [h]
 · next m e => rw [e] at h; rw [h]
def rndF (P : Pl n) (k w : BitVec n) : S8 n → S8 n
 | ⟨a, b, c, d, e, f, g, h⟩ => frB (h + hi P.u1 e + ((e &&& f) ^^^ (~~~e &&& g)) + k + w) fun t1 => frB (hi P.u0 a + ((a &&& b) ^^^ (a &&& c) ^^^ (b &&& c))) fun t2 => frB (t1 + t2) fun a' => frB (d + t1) fun e' => ⟨a', a, b, c, e', e, f, g⟩
theorem rndF_eq (P : Pl n) (k w : BitVec n) (x : S8 n) : rndF P k w x = rnd P k w x := by
 obtain ⟨a, b, c, d, e, f, g, h⟩ := x
 unfold rndF rnd
 simp only [lD]
def rndsF (P : Pl n) (K : List Nat) (r : List (BitVec n)) (N : Nat) (s : S8 n) : Nat → S8 n
 | 0 => s
 | t + 1 => match rndsF P K r N s t with
   | ⟨a, b, c, d, e, f, g, h⟩ => rndF P (cst n K t) (r.getD (N - 1 - t) 0) ⟨a, b, c, d, e, f, g, h⟩
theorem ll (P : Pl n) (K : List Nat) (w : List (BitVec n)) (s : S8 n) : ∀ t, t ≤ w.length → rndsF P K w.reverse w.length s t = rnds P K w s t
 | 0, _ => rfl
 | t + 1, h => by
   have e : w.reverse.getD (w.length - 1 - t) 0 = w.getD t 0 := by
     rw [List.getD_eq_getElem?_getD, List.getD_eq_getElem?_getD, List.getElem?_reverse (by omega), show w.length - 1 - (w.length - 1 - t) = t from by omega]
   rw [rndsF, rnds, ll P K w s t (by omega), e, ← rndF_eq]
def goS (P : Pl n) : Nat → List (BitVec n) → List (BitVec n)
 | 0, r => r
 | k + 1, r => frB (lo P.l1 (r.getD 1 0) + r.getD 6 0 + lo P.l0 (r.getD 14 0) + r.getD 15 0) fun v => goS P k (v :: r)
theorem rf (P : Pl n) (b : List UInt8) : ∀ k j, goS P k (sch P b j).reverse = (sch P b (j + k)).reverse
 | 0, j => rfl
 | k + 1, j => by
   have hl := e7 P b j
   have e : ∀ i, i < 16 → (sch P b j).reverse.getD i 0 = (sch P b j).getD (15 + j - i) 0 := fun i hi => by
     rw [List.getD_eq_getElem?_getD, List.getD_eq_getElem?_getD, List.getElem?_reverse (by omega), hl, show 16 + j - 1 - i = 15 + j - i from by omega]
   rw [goS, lD, e 1 (by decide), e 6 (by decide), e 14 (by decide), e 15 (by decide)]
   have hs : (lo P.l1 ((sch P b j).getD (15 + j - 1) 0) + (sch P b j).getD (15 + j - 6) 0 + lo P.l0 ((sch P b j).getD (15 + j - 14) 0) + (sch P b j).getD (15 + j - 15) 0) :: (sch P b j).reverse = (sch P b (j + 1)).reverse := by
     rw [sch, List.reverse_append]
     show _ = nxt P (sch P b j) (16 + j) :: (sch P b j).reverse
     unfold nxt
     rw [show 16 + j - 2 = 15 + j - 1 from by omega, show 16 + j - 7 = 15 + j - 6 from by omega, show 16 + j - 15 = 15 + j - 14 from by omega, show 16 + j - 16 = 15 + j - 15 from by omega]
   rw [hs, rf P b k (j + 1), show j + 1 + k = j + (k + 1) from by omega]
def iniF (b : List UInt8) : Nat → List (BitVec n)
 | 0 => []
 | k + 1 => frB (wrd n b k) fun v => v :: iniF b k
theorem oI (b : List UInt8) : ∀ k, iniF (n := n) b k = ((List.range k).map (wrd n b)).reverse
 | 0 => rfl
 | k + 1 => by rw [iniF, lD, oI b k, List.range_succ, List.map_append, List.reverse_append]; rfl
def blkF (P : Pl n) (K : List Nat) (b : List UInt8) (s : S8 n) : S8 n := match rndsF P K (goS P (P.R - 16) (iniF b 16)) P.R s P.R with
 | ⟨a, b, c, d, e, f, g, h⟩ => frB (s.a + a) fun a => frB (s.b + b) fun b => frB (s.c + c) fun c => frB (s.d + d) fun d => frB (s.e + e) fun e => frB (s.f + f) fun f => frB (s.g + g) fun g => frB (s.h + h) fun h => ⟨a, b, c, d, e, f, g, h⟩
theorem blkF_eq (P : Pl n) (K : List Nat) (b : List UInt8) (s : S8 n) (hR : 16 ≤ P.R) : blkF P K b s = blk P K b s := by
 have e1 : iniF (n := n) b 16 = (sch P b 0).reverse := by rw [oI]; rfl
 have e2 : goS P (P.R - 16) (iniF b 16) = (sch P b (P.R - 16)).reverse := by rw [e1, rf, Nat.zero_add]
 have hl : (sch P b (P.R - 16)).length = P.R := by rw [e7]; omega
 have e3 := ll P K (sch P b (P.R - 16)) s P.R (by omega)
 rw [hl] at e3
 unfold blkF blk rE
 rw [e2, e3]
 simp only [lD]
theorem il {P : Pl n} {K H : List Nat} {b pb : List UInt8} (hR : 16 ≤ P.R) (hn : 0 < n) (hp : pad n b = pb) (hl : pb.length = 2 * n) : sum P K H b = out8 (blkF P K pb (st8 n H)) := by
 unfold sum
 rw [hp, hl, Nat.div_self (by omega), blks, blks, List.take_of_length_le (by omega), blkF_eq P K pb _ hR]
end
end Go.Sha
namespace Go.Proofs.YtllmbkmghmmhfaaGreatDoor.W
open Go Go.Eng Go.Byt
open Go.Fld Go.Ed
def l_h : List UInt8 := [80, 70, 173, 193, 219, 168, 56, 134, 123, 43, 187, 253, 208, 195, 66, 62, 88, 181, 121, 112, 181, 38, 122, 144, 245, 121, 96, 146, 74, 135, 241, 150, 10, 106, 133, 234, 166, 66, 218, 200, 53, 66, 75, 93, 124, 141, 99, 124, 0, 64, 140, 122, 115, 218, 103, 43, 127, 73, 133, 33, 66, 11, 109, 211]
def l_s : List UInt8 := [80, 70, 173, 193, 219, 168, 56, 134, 123, 43, 187, 253, 208, 195, 66, 62, 88, 181, 121, 112, 181, 38, 122, 144, 245, 121, 96, 146, 74, 135, 241, 86]
def l_px : List UInt8 := [10, 106, 133, 234, 166, 66, 218, 200, 53, 66, 75, 93, 124, 141, 99, 124, 0, 64, 140, 122, 115, 218, 103, 43, 127, 73, 133, 33, 66, 11, 109, 211]
def pj : List UInt8 := [59, 106, 39, 188, 206, 182, 164, 45, 98, 163, 168, 208, 42, 111, 13, 115, 101, 50, 21, 119, 29, 226, 67, 166, 58, 192, 72, 161, 139, 89, 218, 41]
def l_hr : List UInt8 := [237, 97, 107, 212, 26, 238, 14, 43, 106, 34, 164, 163, 230, 100, 26, 207, 91, 39, 222, 231, 72, 83, 52, 142, 137, 136, 226, 197, 59, 29, 195, 202, 229, 15, 237, 148, 53, 47, 53, 43, 226, 68, 78, 244, 187, 102, 152, 79, 244, 24, 122, 126, 178, 33, 87, 74, 187, 241, 7, 22, 242, 246, 228, 143]
def ku : List UInt8 := [53, 21, 111, 120, 165, 98, 138, 224, 165, 248, 124, 236, 208, 37, 138, 13, 242, 216, 81, 96, 166, 166, 4, 142, 13, 95, 220, 189, 2, 104, 224, 15]
def mJ : List UInt8 := [119, 80, 213, 221, 193, 50, 156, 219, 224, 181, 237, 117, 127, 0, 200, 234, 53, 171, 78, 23, 32, 208, 172, 199, 214, 54, 148, 81, 190, 239, 157, 20]
def l_hk : List UInt8 := [162, 190, 238, 182, 243, 73, 151, 135, 169, 174, 164, 7, 254, 181, 48, 127, 119, 159, 43, 126, 223, 242, 240, 247, 28, 243, 88, 5, 4, 94, 179, 6, 67, 59, 180, 160, 46, 143, 160, 109, 246, 161, 4, 11, 72, 127, 187, 153, 247, 23, 110, 4, 244, 130, 140, 251, 141, 68, 81, 216, 47, 136, 31, 221]
def l_kb : List UInt8 := [89, 29, 150, 19, 191, 211, 243, 119, 13, 255, 10, 225, 164, 72, 215, 152, 40, 9, 90, 37, 100, 125, 14, 80, 24, 27, 19, 35, 80, 187, 207, 11]
def mK : List UInt8 := [117, 230, 182, 85, 32, 12, 76, 146, 239, 183, 3, 124, 12, 38, 145, 93, 43, 47, 186, 9, 169, 51, 109, 32, 117, 21, 7, 195, 227, 143, 34, 7]
def l_SE : List UInt8 := [88, 74, 222, 186, 162, 163, 86, 176, 255, 176, 135, 23, 104, 190, 118, 77, 217, 206, 250, 234, 122, 172, 183, 26, 187, 187, 139, 143, 57, 32, 181, 148]
def l_hk2 : List UInt8 := [13, 52, 91, 54, 179, 245, 134, 16, 90, 10, 120, 33, 70, 114, 55, 242, 221, 232, 230, 151, 108, 50, 139, 40, 62, 143, 134, 115, 94, 224, 175, 251, 170, 167, 15, 158, 43, 56, 78, 146, 254, 133, 141, 45, 19, 243, 97, 34, 140, 29, 41, 67, 20, 74, 224, 0, 17, 33, 199, 168, 224, 69, 73, 132]
def l_k2b : List UInt8 := [93, 213, 114, 77, 249, 245, 133, 234, 240, 35, 180, 11, 58, 231, 252, 61, 27, 29, 7, 251, 223, 231, 134, 139, 84, 42, 194, 115, 220, 35, 159, 14]
def l_ma : List UInt8 := [10, 106, 133, 234, 166, 66, 218, 200, 53, 66, 75, 93, 124, 141, 99, 124, 0, 64, 140, 122, 115, 218, 103, 43, 127, 73, 133, 33, 66, 11, 109, 211, 97]
def l_mb : List UInt8 := [119, 80, 213, 221, 193, 50, 156, 219, 224, 181, 237, 117, 127, 0, 200, 234, 53, 171, 78, 23, 32, 208, 172, 199, 214, 54, 148, 81, 190, 239, 157, 20, 59, 106, 39, 188, 206, 182, 164, 45, 98, 163, 168, 208, 42, 111, 13, 115, 101, 50, 21, 119, 29, 226, 67, 166, 58, 192, 72, 161, 139, 89, 218, 41, 97]
def l_mc : List UInt8 := [119, 80, 213, 221, 193, 50, 156, 219, 224, 181, 237, 117, 127, 0, 200, 234, 53, 171, 78, 23, 32, 208, 172, 199, 214, 54, 148, 81, 190, 239, 157, 20, 59, 106, 39, 188, 206, 182, 164, 45, 98, 163, 168, 208, 42, 111, 13, 115, 101, 50, 21, 119, 29, 226, 67, 166, 58, 192, 72, 161, 139, 89, 218, 41, 98]
def chkN : E4 → Nat → Nat → Bool
 | (X, Y, Z, T), x, y => Nat.beq (x * Z % P) (X % P) && Nat.beq (y * Z % P) (Y % P)
theorem ki {f n x y : Nat} (hn : n < 2 ^ f) (h : chkN (emulN f n) x y = true) : pmul n basePt = (fN x, fN y) := by
 obtain ⟨hz, hx, hy, _⟩ := jH f n hn
 generalize emulN f n = q at *
 obtain ⟨X, Y, Z, T⟩ := q
 unfold chkN at h
 rw [Bool.and_eq_true] at h
 have e1 := congrArg fN (Nat.eq_of_beq_eq_true h.1)
 have e2 := congrArg fN (Nat.eq_of_beq_eq_true h.2)
 rw [nT, nT, rt] at e1 e2
 simp only at hx hy hz
 refine Prod.ext ?_ ?_
 · exact gg hz (hx.symm.trans e1.symm)
 · exact gg hz (hy.symm.trans e2.symm)
theorem lC (n : List UInt8) : decE (gB n) = 0 ∧ dP (gB n) = pmul (leI n).toNat basePt := by
 unfold gB dP
 obtain ⟨h1, h2, h3⟩ := enc_dec (dY du (leI n).toNat)
 exact ⟨h1, Prod.ext h2 h3⟩
theorem verP_gB {r a tx sg : List UInt8} (h : sg.take 32 = gB r) : verP (gB a) tx sg = pmul ((leI r).toNat + (leI a).toNat * (leI (hashB (gB r ++ gB a ++ tx))).toNat) basePt := by
 unfold verP
 rw [h, (lC r).2, (lC a).2, ← jM du, ← eB du]
set_option maxRecDepth 100000
theorem kh0 : HH (List.replicate 32 0) = l_h := by
 unfold HH
 rw [Go.Sha.il (pb := ([0, 0, 0, 0, 0, 0, 0, 0, 0, 0, 0, 0, 0, 0, 0, 0, 0, 0, 0, 0, 0, 0, 0, 0, 0, 0, 0, 0, 0, 0, 0, 0, 128, 0, 0, 0, 0, 0, 0, 0, 0, 0, 0, 0, 0, 0, 0, 0, 0, 0, 0, 0, 0, 0, 0, 0, 0, 0, 0, 0, 0, 0, 0, 0, 0, 0, 0, 0, 0, 0, 0, 0, 0, 0, 0, 0, 0, 0, 0, 0, 0, 0, 0, 0, 0, 0, 0, 0, 0, 0, 0, 0, 0, 0, 0, 0, 0, 0, 0, 0, 0, 0, 0, 0, 0, 0, 0, 0, 0, 0, 0, 0, 0, 0, 0, 0, 0, 0, 0, 0, 0, 0, 0, 0, 0, 0, 1, 0] : List UInt8)) (by decide) (by decide) (by decide +kernel) (by decide +kernel)]
 decide +kernel
theorem ksk : skB (List.replicate 32 0) = l_s := by unfold skB; rw [kh0]; decide +kernel
theorem kpx : pxB (List.replicate 32 0) = l_px := by unfold pxB; rw [kh0]; decide +kernel
theorem kga : gB l_s = pj := by
 have h := ki (f := 255) (n := 39325648866980652792715009169219496062012184734522019333892538943312776480336) (x := 9639205628789703341510410801487549615560488670885798085067615194958049462616) (y := 18930617471878267742194159801949745215346600387277955685031939302387136031291) (by decide +kernel) (by decide +kernel)
 unfold gB
 rw [show (leI l_s).toNat = 39325648866980652792715009169219496062012184734522019333892538943312776480336 from by decide +kernel, h]
 decide +kernel
theorem kpk : pkB (List.replicate 32 0) = pj := by unfold pkB; rw [ksk, kga]
theorem kh1 : HH (l_ma) = l_hr := by
 unfold HH
 rw [Go.Sha.il (pb := ([10, 106, 133, 234, 166, 66, 218, 200, 53, 66, 75, 93, 124, 141, 99, 124, 0, 64, 140, 122, 115, 218, 103, 43, 127, 73, 133, 33, 66, 11, 109, 211, 97, 128, 0, 0, 0, 0, 0, 0, 0, 0, 0, 0, 0, 0, 0, 0, 0, 0, 0, 0, 0, 0, 0, 0, 0, 0, 0, 0, 0, 0, 0, 0, 0, 0, 0, 0, 0, 0, 0, 0, 0, 0, 0, 0, 0, 0, 0, 0, 0, 0, 0, 0, 0, 0, 0, 0, 0, 0, 0, 0, 0, 0, 0, 0, 0, 0, 0, 0, 0, 0, 0, 0, 0, 0, 0, 0, 0, 0, 0, 0, 0, 0, 0, 0, 0, 0, 0, 0, 0, 0, 0, 0, 0, 0, 1, 8] : List UInt8)) (by decide) (by decide) (by decide +kernel) (by decide +kernel)]
 decide +kernel
theorem krb : rB (List.replicate 32 0) [97] = ku := by
 unfold rB hashB
 rw [kpx]
 rw [show l_px ++ [97] = l_ma from rfl, kh1]
 decide +kernel
theorem kgr : gB ku = mJ := by
 have h := ki (f := 255) (n := 7181184326793992088570470973156240928892923053541374345874775889579607004469) (x := 57424469103247101692668843822703452406020131022418294163025224199466881445546) (y := 9325306609193551227202014907241585160928628658924949105388706877074100801655) (by decide +kernel) (by decide +kernel)
 unfold gB
 rw [show (leI ku).toNat = 7181184326793992088570470973156240928892923053541374345874775889579607004469 from by decide +kernel, h]
 decide +kernel
theorem kh2 : HH (l_mb) = l_hk := by
 unfold HH
 rw [Go.Sha.il (pb := ([119, 80, 213, 221, 193, 50, 156, 219, 224, 181, 237, 117, 127, 0, 200, 234, 53, 171, 78, 23, 32, 208, 172, 199, 214, 54, 148, 81, 190, 239, 157, 20, 59, 106, 39, 188, 206, 182, 164, 45, 98, 163, 168, 208, 42, 111, 13, 115, 101, 50, 21, 119, 29, 226, 67, 166, 58, 192, 72, 161, 139, 89, 218, 41, 97, 128, 0, 0, 0, 0, 0, 0, 0, 0, 0, 0, 0, 0, 0, 0, 0, 0, 0, 0, 0, 0, 0, 0, 0, 0, 0, 0, 0, 0, 0, 0, 0, 0, 0, 0, 0, 0, 0, 0, 0, 0, 0, 0, 0, 0, 0, 0, 0, 0, 0, 0, 0, 0, 0, 0, 0, 0, 0, 0, 0, 0, 2, 8] : List UInt8)) (by decide) (by decide) (by decide +kernel) (by decide +kernel)]
 decide +kernel
theorem kh3 : HH (l_mc) = l_hk2 := by
 unfold HH
 rw [Go.Sha.il (pb := ([119, 80, 213, 221, 193, 50, 156, 219, 224, 181, 237, 117, 127, 0, 200, 234, 53, 171, 78, 23, 32, 208, 172, 199, 214, 54, 148, 81, 190, 239, 157, 20, 59, 106, 39, 188, 206, 182, 164, 45, 98, 163, 168, 208, 42, 111, 13, 115, 101, 50, 21, 119, 29, 226, 67, 166, 58, 192, 72, 161, 139, 89, 218, 41, 98, 128, 0, 0, 0, 0, 0, 0, 0, 0, 0, 0, 0, 0, 0, 0, 0, 0, 0, 0, 0, 0, 0, 0, 0, 0, 0, 0, 0, 0, 0, 0, 0, 0, 0, 0, 0, 0, 0, 0, 0, 0, 0, 0, 0, 0, 0, 0, 0, 0, 0, 0, 0, 0, 0, 0, 0, 0, 0, 0, 0, 0, 2, 8] : List UInt8)) (by decide) (by decide) (by decide +kernel) (by decide +kernel)]
 decide +kernel
theorem khb (h : mJ ++ pj ++ [97] = l_mb) : hashB (mJ ++ pj ++ [97]) = l_kb := by unfold hashB; rw [h, kh2]; decide +kernel
theorem khc (h : mJ ++ pj ++ [98] = l_mc) : hashB (mJ ++ pj ++ [98]) = l_k2b := by unfold hashB; rw [h, kh3]; decide +kernel
theorem ksS : sgS (List.replicate 32 0) [97] = mK := by
 unfold sgS
 rw [krb, ksk, kpk, kgr, khb rfl]
 decide +kernel
theorem ksg : sgB (List.replicate 32 0) [97] = gB ku ++ mK := by unfold sgB; rw [krb, ksS]
theorem kgS : gB mK = l_SE := by
 have h := ki (f := 255) (n := 3227255830459625268894830962772692551469787206272442507272722259647462303349) (x := 35258448469812251618733143802017561846163754012480596429951757082148501261969) (y := 9366278698107413320606727411137311322727098759470078643615885528027801471576) (by decide +kernel) (by decide +kernel)
 unfold gB
 rw [show (leI mK).toNat = 3227255830459625268894830962772692551469787206272442507272722259647462303349 from by decide +kernel, h]
 decide +kernel
theorem kver : verE (pkB (List.replicate 32 0)) [98] (sgB (List.replicate 32 0) [97]) = 31 := by
 have hp : pkB (List.replicate 32 0) = gB l_s := by unfold pkB; rw [ksk]
 have ht : (gB ku ++ mK).take 32 = gB ku := List.take_left' (gD _)
 have hd : (gB ku ++ mK).drop 32 = mK := List.drop_left' (gD _)
 have hn := ki (f := 255) (n := 2341663124490739071794982550895394070877092220273328156446242133076425742861) (x := 4557965206765101388145606311865845007866192190068363813737493414857729726554) (y := 30930227302714699157948232353255103122122248679019080290177519767715154184404) (by decide +kernel) (by decide +kernel)
 have hv : verP (gB l_s) [98] (gB ku ++ mK) = (fN 4557965206765101388145606311865845007866192190068363813737493414857729726554, fN 30930227302714699157948232353255103122122248679019080290177519767715154184404) := by
   rw [verP_gB ht, kgr, kga, khc rfl, ← rC, show ((leI ku).toNat + (leI l_s).toNat * (leI l_k2b).toNat) % Go.Proofs.YtllmbkmghmmhfaaGreatDoor.W.ordL = 2341663124490739071794982550895394070877092220273328156446242133076425742861 from by decide +kernel]
   exact hn
 rw [hp, ksg]
 unfold verE
 rw [if_neg (by rw [List.length_append, gD, gD]; decide), if_neg (by rw [(lC _).1]; decide), ht, hd, if_neg (by rw [(lC _).1]; decide +kernel), if_neg (by rw [kgS, hv]; decide +kernel)]
theorem kpub : (pkB (List.replicate 32 0)).length = 32 ∧ (pkB (List.replicate 32 0)).take 4 = [59, 106, 39, 188] := by rw [kpk]; decide +kernel
attribute [local irreducible] encB
theorem jT (v : Value) (xs : List UInt8) (w : World) (hv : RdB w v xs) (hx : xs.length ≤ 140737488351232) : Rets Tryz.prog 6 [v] w (fun r w' => ∃ u, r = cut u 0 xs.length 1 ∧ Own w' w.heap.size 5 1 u (xs.length + 2) (bv (xs ++ [201, 202])) ∧ Keep [] w w') := by
 have hB : Keep [] w w := Keep.refl _ _
 refine ac Tryz.func6 rfl (by decide) Tryz.ntmps6 rfl (fun fin _ hfin => a5 (aZ (oga rfl rfl (a6 (a5 (aZ ?_))))))
 have gl_oa := hB.size
 refine ad (sI aA cg rfl) rfl ?_
 rintro _ wg ⟨g, rfl, hge, hg0, kg⟩
 replace hB := hB.trans kg
 refine ogm rfl rfl (ad (n0 (lo := w.heap.size) aA cg rfl rfl rfl hg0 (hge ▸ Nat.le_refl _) rfl (hv.s8 hB) (by omega)) rfl ?_)
 rintro va wa ⟨oa, ka⟩
 replace hB := hB.trans ka
 refine oga rfl rfl (a6 (a5 (aZ (ogm rfl rfl ?_))))
 have hlo0 : w.heap.size ≤ wa.heap.size := Nat.le_trans kg.size ka.size
 refine ad (dv (m := 2) (xs := [.const (.int .u8 (201)), .const (.int .u8 (202))]) (vs := [_, _]) aA cg (by decide) rfl rfl rfl (by simp only [List.forall_mem_cons]; exact ⟨rfl, rfl, fun v hv => by cases hv⟩) (by decide)) rfl ?_
 rintro v1 w1 ⟨o1, nn1, lb1, k1, z1⟩
 replace oa := oa.s8 k1
 replace hB := hB.trans k1
 replace o1 : Own w1 _ _ 1 v1 2 (bv [201, 202]) := o1
 have hlo := Nat.le_trans hlo0 k1.size
 refine ad (dn aA cg rfl oa rfl (show RdB _ _ [201, 202] from o1.rd) (by show xs.length + 2 ≤ _; omega) hlo) rfl ?_
 rintro vb wb ⟨ob, kb, _, _⟩
 replace hB := hB.new kb (fun x hx => .inl (Nat.le_trans gl_oa (oa.blk x hx).1))
 refine oga rfl rfl (a6 (a5 (aZ (ogm rfl rfl (ogm rfl rfl (a7 (cB aA rfl (by first | assumption | exact Own.rd ‹_› | exact Rd.s8 ‹_› hB | exact Own.rd (Own.s8 ‹_› hB))) rfl (a7 (fo aA cg rfl ob.rd (.inl ⟨rfl, rfl⟩) (.inr ⟨_, _, rfl, rfl⟩) (by have := ob.rd.vcap; have : [(201 : UInt8), 202].length = 2 := rfl; omega)) rfl (oga rfl rfl (a6 (a9 [(2, _)] ⟨rfl, trivial⟩ (bG hfin Tryz.results6 rfl ?_)))))))))))
 exact ⟨vb, rfl, ob.lo gl_oa, hB⟩
theorem iN (u v : Value) (xs : List UInt8) (lo : Nat) (w : World) (ho : Own w lo 5 1 u (xs.length + 2) (bv (xs ++ [201, 202]))) (hv : RdB w v xs) (hx : xs.length ≤ 140737488351232) : Rets Tryz.prog 10 [cut u 0 xs.length 1, v] w (fun r w' => r = .bool true ∧ Keep [] w w') := by
  have hB : Keep [] w w := Keep.refl _ _
  obtain ⟨u10, hu10⟩ : ∃ u10, u10 = cut (cut u 0 xs.length 1) (0 : Int).toNat ((xs.length : Int) + 2).toNat 1 := ⟨_, rfl⟩
  have hall : RdB w u (xs ++ [201, 202]) := by unfold RdB; rw [List.length_append]; exact ho.rd
  have h10 : RdB w u10 (xs ++ [201, 202]) := by
    have e : cut (cut u 0 xs.length 1) (0 : Int).toNat ((xs.length : Int) + 2).toNat 1 = cut u 0 (xs.length + 2) 1 := by rw [show (0 : Int).toNat = 0 from rfl, show ((xs.length : Int) + 2).toNat = xs.length + 2 by omega]; exact cut_cut hall
    rw [hu10, e]
    have h := hall.cutB (l := 0) (hi := xs.length + 2) (by omega) (by simp)
    rwa [List.drop_zero, Nat.sub_zero, List.take_of_length_le (by simp)] at h
  have h14 : RdB w (cut u10 0 xs.length 1) xs := by
    have h := h10.cutB (l := 0) (hi := xs.length) (by omega) (by simp)
    rwa [List.drop_zero, Nat.sub_zero, List.take_left' rfl] at h
  have hcap : (0 : Int) ≤ 0 ∧ (0 : Int) ≤ (xs.length : Int) + 2 ∧ (xs.length : Int) + 2 ≤ (vcap (cut u 0 xs.length 1) : Int) := by
    obtain ⟨A, c, e, h1, h2, _⟩ := hall
    subst e
    rw [List.length_append] at h1
    have h1 : xs.length + 2 ≤ c := h1
    refine ⟨Int.le_refl _, by omega, ?_⟩
    show (xs.length : Int) + 2 ≤ ((c - 0 : Nat) : Int)
    omega
  refine ac Tryz.func10 rfl (by decide) Tryz.ntmps10 rfl (fun fin _ hfin => a5 (aZ (oga rfl rfl (a6 (a5 (aZ (ogm rfl rfl (ogm rfl rfl ?_))))))))
  refine a7 (cB aA rfl (by first | assumption | exact Own.rd (by assumption) | exact Rd.s8 (by assumption) hB | exact Own.rd (Own.s8 (by assumption) hB))) rfl (a7 (bi rfl rfl (by omega)) rfl (a7 (v := u10) (by rw [hu10]; exact fo aA cg rfl (is ho) (.inl ⟨rfl, rfl⟩) (.inr ⟨_, _, rfl, rfl⟩) hcap) rfl (oga rfl rfl (a6 (a5 (bW 26 [0, 1, 2, 3, 4, 5, 6, 7, 8, 9, 10, 11, 12, 13, 14, 15, 16, 17, 18, 19, 20, 21, 22, 23, 24, 25] [] [] [] mixed [(5, _), (1, _)] ⟨rfl, rfl, trivial⟩ (by decide +kernel) (by decide) (by decide) ?_ (fun x hx => by cases hx) rfl (fun w1 k1 => ?_)))))))
  · intro q hq; cases hq
  replace hB := hB.trans k1
  refine bu 5 rfl rfl rfl rfl rfl (bu 1 rfl rfl rfl rfl rfl (al 12 rfl rfl rfl rfl (fun W' kk => cB aA rfl (by first | exact Rd.s8 (by assumption) kk | exact Rd.s8 (Own.rd (by assumption)) kk | exact Rd.s8 (Rd.s8 (by assumption) hB) kk | exact Rd.s8 (Own.rd (Own.s8 (by assumption) hB)) kk)) (cn 11 13 rfl rfl rfl rfl rfl (fun W' kk => fo aA cg rfl (by first | exact Rd.s8 (by assumption) kk | exact Rd.s8 (Own.rd (by assumption)) kk | exact Rd.s8 (Rd.s8 (by assumption) hB) kk | exact Rd.s8 (Own.rd (Own.s8 (by assumption) hB)) kk) (.inl ⟨rfl, rfl⟩) (.inr ⟨_, _, rfl, rfl⟩) (by have := h10.vcap; simp only [List.length_append, List.length_cons, List.length_nil] at this; omega)) (al 14 rfl rfl rfl rfl (fun W' kk => gC aA aH aT rfl (by first | exact Rd.s8 (by assumption) kk | exact Rd.s8 (Own.rd (by assumption)) kk | exact Rd.s8 (Rd.s8 (by assumption) hB) kk | exact Rd.s8 (Own.rd (Own.s8 (by assumption) hB)) kk)) (bu 1 rfl rfl rfl rfl rfl (al 16 rfl rfl rfl rfl (fun W' kk => gC aA aH aT rfl (by first | exact Rd.s8 (by assumption) kk | exact Rd.s8 (Own.rd (by assumption)) kk | exact Rd.s8 (Rd.s8 (by assumption) hB) kk | exact Rd.s8 (Own.rd (Own.s8 (by assumption) hB)) kk)) (cn 15 17 rfl rfl rfl rfl rfl (fun W' kk => oN rfl rfl) ?_)))))))
  refine bu 18 rfl rfl rfl rfl rfl (fM [(5, _), (19, _)] rfl rfl ⟨rfl, rfl, trivial⟩ rfl (grdT rfl rfl rfl (decide_eq_true rfl)) (fun W' kk => bY rfl) (fM [(1, _), (19, _)] rfl rfl ⟨rfl, rfl, trivial⟩ rfl (grdT rfl rfl rfl (decide_eq_true rfl)) (fun W' kk => bY rfl) (fM [(19, _), (21, _)] rfl rfl ⟨rfl, rfl, trivial⟩ rfl (grdT rfl rfl rfl (decide_eq_true rfl)) (fun W' kk => cB aA rfl (by first | exact Rd.s8 (by assumption) kk | exact Rd.s8 (Own.rd (by assumption)) kk | exact Rd.s8 (Rd.s8 (by assumption) hB) kk | exact Rd.s8 (Own.rd (Own.s8 (by assumption) hB)) kk)) (fM [(19, _), (20, _), (22, _)] rfl rfl ⟨rfl, rfl, rfl, trivial⟩ rfl (grdT rfl rfl rfl (decide_eq_true rfl)) (fun W' kk => bk aA cg rfl (by first | exact Rd.s8 (by assumption) kk | exact Rd.s8 (Own.rd (by assumption)) kk | exact Rd.s8 (Rd.s8 (by assumption) hB) kk | exact Rd.s8 (Own.rd (Own.s8 (by assumption) hB)) kk) rfl (by simp only [List.length_append, List.length_cons, List.length_nil]; omega)) (fM [(19, _), (23, _)] rfl rfl ⟨rfl, rfl, trivial⟩ rfl (grdT rfl rfl rfl (decide_eq_true rfl)) (fun W' kk => dT iI rfl (by first | exact Rd.s8 (by assumption) kk | exact Rd.s8 (Own.rd (by assumption)) kk | exact Rd.s8 (Rd.s8 (by assumption) hB) kk | exact Rd.s8 (Own.rd (Own.s8 (by assumption) hB)) kk) (by simp only [List.length_append, List.length_cons, List.length_nil]; omega)) ?_)))))
  refine fM [(19, _), (24, _)] rfl rfl ⟨rfl, rfl, trivial⟩ rfl (grdT rfl rfl rfl (decide_eq_true rfl)) (fun W' kk => fS rfl rfl) (cn 19 25 rfl rfl rfl rfl rfl (fun W' kk => ej rfl (decide_eq_true rfl) rfl) (bu 26 rfl rfl rfl rfl rfl (fM [(5, _), (27, _)] rfl rfl ⟨rfl, rfl, trivial⟩ rfl (grdT rfl rfl rfl (decide_eq_true (ic xs))) (fun W' kk => bY rfl) (fM [(1, _), (27, _)] rfl rfl ⟨rfl, rfl, trivial⟩ rfl (grdT rfl rfl rfl (decide_eq_true (ic xs))) (fun W' kk => bY rfl) (fM [(27, _), (29, _)] rfl rfl ⟨rfl, rfl, trivial⟩ rfl (grdT rfl rfl rfl (decide_eq_true (ic xs))) (fun W' kk => cB aA rfl (by first | exact Rd.s8 (by assumption) kk | exact Rd.s8 (Own.rd (by assumption)) kk | exact Rd.s8 (Rd.s8 (by assumption) hB) kk | exact Rd.s8 (Own.rd (Own.s8 (by assumption) hB)) kk)) (fM [(27, _), (30, _)] rfl rfl ⟨rfl, rfl, trivial⟩ rfl (grdT rfl rfl rfl (decide_eq_true (ic xs))) (fun W' kk => bi rfl rfl (by omega)) (fM [(27, _), (28, _), (31, _)] rfl rfl ⟨rfl, rfl, rfl, trivial⟩ rfl (grdT rfl rfl rfl (decide_eq_true (ic xs))) (fun W' kk => bk aA cg rfl (by first | exact Rd.s8 (by assumption) kk | exact Rd.s8 (Own.rd (by assumption)) kk | exact Rd.s8 (Rd.s8 (by assumption) hB) kk | exact Rd.s8 (Own.rd (Own.s8 (by assumption) hB)) kk) rfl (by simp only [List.length_append, List.length_cons, List.length_nil]; omega)) ?_)))))))
  refine fM [(27, _), (32, _)] rfl rfl ⟨rfl, rfl, trivial⟩ rfl (grdT rfl rfl rfl (decide_eq_true (ic xs))) (fun W' kk => dT iI rfl (by first | exact Rd.s8 (by assumption) kk | exact Rd.s8 (Own.rd (by assumption)) kk | exact Rd.s8 (Rd.s8 (by assumption) hB) kk | exact Rd.s8 (Own.rd (Own.s8 (by assumption) hB)) kk) (by simp only [List.length_append, List.length_cons, List.length_nil]; omega)) (fM [(27, _), (33, _)] rfl rfl ⟨rfl, rfl, trivial⟩ rfl (grdT rfl rfl rfl (decide_eq_true (ic xs))) (fun W' kk => fS rfl rfl) (cn 27 34 rfl rfl rfl rfl rfl (fun W' kk => ej rfl (decide_eq_true (ic xs)) rfl) (al 35 rfl rfl rfl rfl (fun W' kk => fe rfl) (cC (fun w2 k2 => ?_)))))
  replace hB := hB.trans k2
  refine bX (a6 (a9 [(4, _)] ⟨rfl, trivial⟩ (bG hfin Tryz.results10 rfl ?_)))
  exact ⟨by rw [decide_eq_true (mark2 xs)], hB⟩
end Go.Proofs.YtllmbkmghmmhfaaGreatDoor.W
namespace Go.Eng
open Go
theorem m8 (w : World) (a : Addr) (k : Nat) (q : Addr) : (w.freeze a k).cell? q = w.cell? q := by
 unfold World.freeze
 split
 · rfl
 · unfold World.cell?
   simp only [Array.getElem?_modify]
   by_cases h : a.block = q.block
   · rw [if_pos h]
     cases hc : w.heap[q.block]? with
     | none => rfl
     | some o =>
       cases o <;> rfl
   · rw [if_neg h]
theorem mL (w : World) (a : Addr) (k : Nat) : Keep [a.block] w (w.freeze a k) := by
 unfold World.freeze
 split
 · exact Keep.refl _ _
 · refine ⟨rfl, rfl, rfl, ?_, fun j hj hn => ?_⟩
   · show w.heap.size ≤ (w.heap.modify a.block _).size
     rw [Array.size_modify]; exact Nat.le_refl _
   · show (w.heap.modify a.block _)[j]? = w.heap[j]?
     rw [Array.getElem?_modify, if_neg (fun e => hn (by rw [e]; exact List.mem_singleton.2 rfl))]
theorem pY {w : World} {a : Addr} {k s m : Nat} {v : Value} {cs : List Value} (h : Rd w s v m cs) : Rd (w.freeze a k) s v m cs := by
 obtain ⟨A, c, h1, h2, h3, h4, h5, h6⟩ := h
 exact ⟨A, c, h1, h2, h3, h4, h5, fun b hb j u hj => by rw [m8]; exact h6 b hb j u hj⟩
section
variable {P : Program} {n : Nat} {f : Fr} {w : World} {ty : TypeId}
theorem d_cvm {t e : TypeId} {x : Operand} {v : Value} {m : Nat} {cs : List Value} (ht : P.underlying t = some (.slice e)) (he : P.underlying e = some (.int .u8)) (hx : f.ev x = some v) (hr : Rd w 1 v m cs) (hn : isNil v = false) :
   Does P n f w (.convert t t x) ty (fun v' w' => v' = v ∧ Rd w' 1 v m cs ∧ Keep (vblk v) w w' ∧ w'.heap.size = w.heap.size) := by
 intro a ha dst pos aft g K Q hK
 obtain ⟨A, c, rfl, _⟩ := id hr
 cases A with
 | none => cases hn
 | some b =>
   have key : ∃ w', (execOp a.eval ⟨dst, .convert t t x, ty, pos, aft, g⟩).run P w = .ok (.value (.slice (some b) m c)) w' ∧ Rd w' 1 (.slice (some b) m c) m cs ∧ Keep (vblk (.slice (some b) m c)) w w' ∧ w'.heap.size = w.heap.size := by
     cases hs : w.shape? b.block with
     | none =>
       refine ⟨w, ?_, hr, Keep.refl _ _, rfl⟩
       simp [execOp, ha.ev hx, convert, run_underlying ht, run_underlying he, markStringish, hs]
     | some q =>
       obtain ⟨qt, qn⟩ := q
       refine ⟨w.freeze ⟨b.block, qn, none⟩ 1, ?_, pY hr, mL w ⟨b.block, qn, none⟩ 1, ?_⟩
       · simp [execOp, ha.ev hx, convert, run_underlying ht, run_underlying he, markStringish, hs]
       · unfold World.freeze
         rw [if_neg (by decide)]
         exact Array.size_modify
   obtain ⟨w', h1, h2, h3, h4⟩ := key
   unfold Oper.wp
   rw [h1]
   exact hK _ _ ⟨rfl, h2, h3, h4⟩
end
end Go.Eng
namespace Go.Proofs.YtllmbkmghmmhfaaGreatDoor.W
open Go Go.Eng Go.Byt
open Go.Fld Go.Ed
theorem gy (e : Int) (w : World) : Rets Tryz.prog 9 [.int .i64 e] w (fun r w' => r = .int .i64 e ∧ Keep [] w w') := by
 have hB : Keep [] w w := Keep.refl _ _
 refine ac Tryz.func9 rfl (by decide) Tryz.ntmps9 rfl (fun fin _ hfin => a5 (aZ (oga rfl rfl (a6 (a5 (aZ (ogm rfl rfl (oga rfl rfl (a6 (bG hfin Tryz.results9 rfl ?_))))))))))
 exact ⟨rfl, hB⟩
theorem rb (v : Value) (w : World) (hT : Tabs w) (hv : RdB w v (List.replicate 32 0)) : Rets Tryz.prog 7 [v] w (fun r w' => ∃ u, r = .tuple #[u, .int .i64 0] ∧ OwnB w' w.heap.size u (pkB (List.replicate 32 0)) ∧ Keep [] w w') := by
  have h := qc v (List.replicate 32 0) w hT hv
  rw [show pkE (List.replicate 32 0) = 0 from if_pos (by decide), show pkR (List.replicate 32 0) = pkB (List.replicate 32 0) from if_pos (by decide)] at h
  exact h
theorem pm (v vt : Value) (w : World) (hT : Tabs w) (hv : RdB w v (List.replicate 32 0)) (hy : RdB w vt [97]) : Rets Tryz.prog 12 [v, vt] w (fun r w' => ∃ u, r = .tuple #[u, .int .i64 0] ∧ OwnB w' w.heap.size u (sgB (List.replicate 32 0) [97]) ∧ Keep [] w w') := by
  have h := pG v vt (List.replicate 32 0) [97] w hT hv hy (by decide)
  rw [show sgE (List.replicate 32 0) = 0 from if_pos (by decide), show sgR (List.replicate 32 0) [97] = sgB (List.replicate 32 0) [97] from if_pos (by decide)] at h
  exact h
theorem ra (va vb vc : Value) (w : World) (hT : Tabs w) (ha : RdB w va (pkB (List.replicate 32 0))) (hb : RdB w vb [98]) (hc : RdB w vc (sgB (List.replicate 32 0) [97])) : Rets Tryz.prog 14 [va, vb, vc] w (fun r w' => r = .int .i64 31 ∧ Keep [] w w') := by
  have h := l5 va vb vc _ [98] _ w hT ha hb hc (by decide)
  rw [kver] at h
  exact h
theorem nO (w : World) (hT : Tabs w) : Rets Tryz.prog 11 [] w (fun r w' => r = .bool true ∧ Keep [] w w') := by
 have hB : Keep [] w w := Keep.refl _ _
 refine ac Tryz.func11 rfl (by decide) Tryz.ntmps11 rfl (fun fin _ hfin => a5 (aZ (oga rfl rfl (a6 (a5 (aZ (ad (nZ aA cg rfl rfl (by omega) (by constructor <;> omega)) rfl ?_)))))))
 rintro v1 w1 ⟨o1, nn1, lb1, k1, z1⟩
 have go_v1 := fun x hx => (show w.heap.size ≤ x from by have h1 := (o1.blk x hx).1; have h2 := hB.size; omega)
 have gl_o1 := hB.size
 replace hB := hB.trans k1
 replace o1 : Own w1 _ 5 1 v1 32 [.int .u8 0, .int .u8 0, .int .u8 0, .int .u8 0, .int .u8 0, .int .u8 0, .int .u8 0, .int .u8 0, .int .u8 0, .int .u8 0, .int .u8 0, .int .u8 0, .int .u8 0, .int .u8 0, .int .u8 0, .int .u8 0, .int .u8 0, .int .u8 0, .int .u8 0, .int .u8 0, .int .u8 0, .int .u8 0, .int .u8 0, .int .u8 0, .int .u8 0, .int .u8 0, .int .u8 0, .int .u8 0, .int .u8 0, .int .u8 0, .int .u8 0, .int .u8 0] := o1
 replace o1 : OwnB w1 w.heap.size v1 (List.replicate 32 0) := by have e := o1.lo gl_o1; unfold OwnB; rw [List.length_replicate]; exact e
 refine oga rfl rfl (a6 (a5 (aZ (ogm rfl rfl (ad (a8 (vs := [_]) rfl (rb _ _ (hT.s8 hB) (by have e := o1.rd; exact e))) rfl ?_)))))
 rintro _ w2 ⟨v2, rfl, o2, k2⟩
 replace o1 := o1.s8 k2
 replace hB := hB.trans k2
 refine ogm rfl rfl (a7 (bH (vs := [_, _]) rfl rfl) rfl (a7 (bH (vs := [_, _]) rfl rfl) rfl (oga rfl rfl (oga rfl rfl (a6 (a5 (aZ (ogm rfl rfl ?_))))))))
 have ltz1 := fun x hx => (o1.blk x hx).2
 have ltz2 := fun x hx => (o2.blk x hx).2
 refine ad (dv (m := 1) (xs := [.const (.int .u8 (97))]) (vs := [_]) aA cg (by decide) rfl rfl rfl (by first | (simp; done) | (intro v hv; rw [List.mem_singleton] at hv; subst hv; rfl)) (by decide)) rfl ?_
 rintro v3 w3 ⟨o3, nn2, lb2, k3, z2⟩
 have gl_o3 := hB.size
 replace o1 := o1.s8 k3
 replace o2 := o2.s8 k3
 replace hB := hB.trans k3
 replace o3 : Own w3 _ _ 1 v3 1 (bv [97]) := o3
 refine ad (d_cvm aA aH rfl o3.rd nn2) rfl ?_
 rintro _ w4 ⟨rfl, r15, k4, _⟩
 replace hB := hB.new k4 (fun x hx => .inl (Nat.le_trans gl_o3 (o3.blk x hx).1))
 replace o1 := o1.keep k4 (fun x hx hm => by have h1 := ltz1 x hx; have h2 := (o3.blk x hm).1; omega)
 replace o2 := o2.keep k4 (fun x hx hm => by have h1 := ltz2 x hx; have h2 := (o3.blk x hm).1; omega)
 refine ad (a8 (vs := [_, _]) rfl (pm _ _ _ (hT.s8 hB) (by have e := o1.rd; exact e) ‹_›)) rfl ?_
 rintro _ w5 ⟨v4, rfl, o4, k5⟩
 replace o1 := o1.s8 k5
 replace o2 := o2.s8 k5
 replace r15 := r15.s8 k5
 replace hB := hB.trans k5
 refine ogm rfl rfl (a7 (bH (vs := [_, _]) rfl rfl) rfl (a7 (bH (vs := [_, _]) rfl rfl) rfl (oga rfl rfl (oga rfl rfl (a6 (a9 [(2, _), (3, _), (4, _), (5, _)] ⟨rfl, rfl, rfl, rfl, trivial⟩ (a5 (aZ (ogm rfl rfl (ad (a8 (vs := [_]) rfl (gy _ _)) rfl ?_))))))))))
 rintro _ w6 ⟨rfl, k6⟩
 replace o1 := o1.s8 k6
 replace o2 := o2.s8 k6
 replace r15 := r15.s8 k6
 replace o4 := o4.s8 k6
 replace hB := hB.trans k6
 refine ogm rfl rfl (ad (a8 (vs := [_]) rfl (gy _ _)) rfl ?_)
 rintro _ w7 ⟨rfl, k7⟩
 replace o1 := o1.s8 k7
 replace o2 := o2.s8 k7
 replace r15 := r15.s8 k7
 replace o4 := o4.s8 k7
 replace hB := hB.trans k7
 refine a7 (bC (j := 0) (ay rfl rfl) (by decide)) rfl (a7 (fS rfl rfl) rfl (ogm rfl rfl (dO (grdT rfl rfl rfl (by decide)) (bY rfl) rfl (dO (grdT rfl rfl rfl (by decide)) (cB aA rfl o2.rd) rfl (dO (grdT rfl rfl rfl (by decide)) (fS rfl rfl) rfl (a7 (ej rfl (by decide) rfl) rfl (ogm rfl rfl (dO (grdT rfl rfl rfl (decide_eq_true (by rw [kpub.1]; rfl))) (bY rfl) rfl ?_))))))))
 have r32 : RdB w7 (cut v2 0 4 1) ((pkB (List.replicate 32 0)).take 4) := by have e := (show RdB w7 v2 (pkB (List.replicate 32 0)) from o2.rd).cutB (l := 0) (hi := 4) (by decide) (by rw [kpub.1]; decide); rwa [List.drop_zero] at e
 refine dO (grdT rfl rfl rfl (decide_eq_true (by rw [kpub.1]; rfl))) (cN (v' := (cut v2 0 4 1)) (fo aA cg rfl o2.rd (.inl ⟨rfl, rfl⟩) (.inr ⟨_, _, rfl, rfl⟩) (by have h1 := o2.rd.vcap.1; have h2 := kpub.1; omega)) rfl) rfl (dO (grdT rfl rfl rfl (decide_eq_true (by rw [kpub.1]; rfl))) (gC aA aH aT rfl (by first | assumption | exact Own.rd ‹_› | exact Rd.s8 ‹_› hB | exact Own.rd (Own.s8 ‹_› hB))) rfl (dO (grdT rfl rfl rfl (decide_eq_true (by rw [kpub.1]; rfl))) (oN (a := (pkB (List.replicate 32 0)).take 4) (b := [59, 106, 39, 188]) rfl rfl) rfl (a7 (ej rfl (decide_eq_true (by rw [kpub.1]; rfl)) rfl) rfl (ogm rfl rfl (dO (grdT rfl rfl rfl (decide_eq_true kpub.2)) (bY rfl) rfl ?_)))))
 have ltz3 := fun x hx => (o1.blk x hx).2
 have ltz4 := fun x hx => (o2.blk x hx).2
 have ltz5 := fun x hx => (o4.blk x hx).2
 refine ia (grdT rfl rfl rfl (decide_eq_true kpub.2)) (dv (m := 1) (xs := [.const (.int .u8 (98))]) (vs := [_]) aA cg (by decide) rfl rfl rfl (by first | (simp; done) | (intro v hv; rw [List.mem_singleton] at hv; subst hv; rfl)) (by decide)) rfl ?_
 rintro v5 w8 ⟨o5, nn3, lb3, k8, z3⟩
 have gl_o5 := hB.size
 replace o1 := o1.s8 k8
 replace o2 := o2.s8 k8
 replace r15 := r15.s8 k8
 replace o4 := o4.s8 k8
 replace hB := hB.trans k8
 replace o5 : Own w8 _ _ 1 v5 1 (bv [98]) := o5
 refine ia (grdT rfl rfl rfl (decide_eq_true kpub.2)) (d_cvm aA aH rfl o5.rd nn3) rfl ?_
 rintro _ w9 ⟨rfl, r39, k9, _⟩
 replace hB := hB.new k9 (fun x hx => .inl (Nat.le_trans gl_o5 (o5.blk x hx).1))
 replace o1 := o1.keep k9 (fun x hx hm => by have h1 := ltz3 x hx; have h2 := (o5.blk x hm).1; omega)
 replace o2 := o2.keep k9 (fun x hx hm => by have h1 := ltz4 x hx; have h2 := (o5.blk x hm).1; omega)
 replace o4 := o4.keep k9 (fun x hx hm => by have h1 := ltz5 x hx; have h2 := (o5.blk x hm).1; omega)
 refine dO (grdT rfl rfl rfl (decide_eq_true kpub.2)) (bY rfl) rfl (ia (grdT rfl rfl rfl (decide_eq_true kpub.2)) (a8 (vs := [_, _, _]) rfl (ra _ _ _ _ (hT.s8 hB) (by have e := o2.rd; exact e) ‹_› (by have e := o4.rd; exact e))) rfl ?_)
 rintro _ w10 ⟨rfl, k10⟩
 replace hB := hB.trans k10
 refine ia (grdT rfl rfl rfl (decide_eq_true kpub.2)) (a8 (vs := [_]) rfl (gy _ _)) rfl ?_
 rintro _ w11 ⟨rfl, k11⟩
 replace hB := hB.trans k11
 refine dO (grdT rfl rfl rfl (decide_eq_true kpub.2)) (fS rfl rfl) rfl (a7 (ej rfl (decide_eq_true kpub.2) rfl) rfl (oga rfl rfl (a6 (a9 [(0, _)] ⟨rfl, trivial⟩ (bG hfin Tryz.results11 rfl ?_)))))
 exact ⟨rfl, hB⟩
theorem iP (va vb vc : Value) (pk tx sg : List UInt8) (w : World) (hT : Tabs w) (ha : RdB w va pk) (hb : RdB w vb tx) (hc : RdB w vc sg) (hpl : pk.length ≤ 140737488351232) (htl : tx.length ≤ 140737488351232) (hgl : sg.length ≤ 140737488351232) : Rets Tryz.prog 5 [va, vb, vc] w (fun r w' => r = .bool true ∧ Keep [] w w') := by
 have hB : Keep [] w w := Keep.refl _ _
 refine ac Tryz.func5 rfl (by decide) Tryz.ntmps5 rfl (fun fin _ hfin => a5 (aZ (oga rfl rfl (a6 (a5 (aZ (ogm rfl rfl (ad (a8 (vs := [_]) rfl (jT _ pk _ (ha.s8 hB) hpl)) rfl ?_))))))))
 rintro _ w1 ⟨u1, rfl, o1, k1⟩
 replace hB := hB.trans k1
 refine oga rfl rfl (a6 (a5 (aZ (ogm rfl rfl (ad (a8 (vs := [_]) rfl (jT _ tx _ (hb.s8 hB) htl)) rfl ?_)))))
 rintro _ w2 ⟨u2, rfl, o2, k2⟩
 replace o1 := o1.s8 k2
 replace hB := hB.trans k2
 refine oga rfl rfl (a6 (a5 (aZ (ogm rfl rfl (ad (a8 (vs := [_]) rfl (jT _ sg _ (hc.s8 hB) hgl)) rfl ?_)))))
 rintro _ w3 ⟨u3, rfl, o3, k3⟩
 replace o1 := o1.s8 k3
 replace o2 := o2.s8 k3
 replace hB := hB.trans k3
 refine oga rfl rfl (a6 (a5 (aZ (ogm rfl rfl (ogm rfl rfl (ogm rfl rfl (ad (a8 (vs := [_, _, _]) rfl (l5 _ _ _ pk tx sg _ (hT.s8 hB) (is o1) (is o2) (is o3) htl)) rfl ?_)))))))
 rintro _ w4 ⟨rfl, k4⟩
 replace o1 := o1.s8 k4
 replace o2 := o2.s8 k4
 replace o3 := o3.s8 k4
 replace hB := hB.trans k4
 refine ad (a8 (vs := [_]) rfl (gy _ _)) rfl ?_
 rintro _ w5 ⟨rfl, k5⟩
 replace o1 := o1.s8 k5
 replace o2 := o2.s8 k5
 replace o3 := o3.s8 k5
 replace hB := hB.trans k5
 refine ogm rfl rfl (ogm rfl rfl (ogm rfl rfl (ad (a8 (vs := [_, _, _]) rfl (qj _ _ _ pk tx sg _ (ha.s8 hB) (hb.s8 hB) (hc.s8 hB) htl)) rfl ?_)))
 rintro _ w6 ⟨rfl, k6⟩
 replace o1 := o1.s8 k6
 replace o2 := o2.s8 k6
 replace o3 := o3.s8 k6
 replace hB := hB.trans k6
 refine a7 (fS rfl rfl) rfl (ogm rfl rfl (dO (grdT rfl rfl rfl (decide_eq_true rfl)) (bY rfl) rfl (dO (grdT rfl rfl rfl (decide_eq_true rfl)) (bY rfl) rfl (ia (grdT rfl rfl rfl (decide_eq_true rfl)) (a8 (vs := [_, _]) rfl (iN _ _ pk _ _ o1 (ha.s8 hB) hpl)) rfl ?_))))
 rintro _ w7 ⟨rfl, k7⟩
 replace o2 := o2.s8 k7
 replace o3 := o3.s8 k7
 replace hB := hB.trans k7
 refine a7 (ej rfl (decide_eq_true rfl) rfl) rfl (ogm rfl rfl (dO (grdT rfl rfl rfl rfl) (bY rfl) rfl (dO (grdT rfl rfl rfl rfl) (bY rfl) rfl (ia (grdT rfl rfl rfl rfl) (a8 (vs := [_, _]) rfl (iN _ _ tx _ _ o2 (hb.s8 hB) htl)) rfl ?_))))
 rintro _ w8 ⟨rfl, k8⟩
 replace o3 := o3.s8 k8
 replace hB := hB.trans k8
 refine a7 (ej rfl rfl rfl) rfl (ogm rfl rfl (dO (grdT rfl rfl rfl rfl) (bY rfl) rfl (dO (grdT rfl rfl rfl rfl) (bY rfl) rfl (ia (grdT rfl rfl rfl rfl) (a8 (vs := [_, _]) rfl (iN _ _ sg _ _ o3 (hc.s8 hB) hgl)) rfl ?_))))
 rintro _ w9 ⟨rfl, k9⟩
 replace hB := hB.trans k9
 refine a7 (ej rfl rfl rfl) rfl (ogm rfl rfl (ia (grdT rfl rfl rfl rfl) (a8 (vs := []) rfl (nO _ (hT.s8 hB))) rfl ?_))
 rintro _ w10 ⟨rfl, k10⟩
 replace hB := hB.trans k10
 refine a7 (ej rfl rfl rfl) rfl (oga rfl rfl (a6 (a9 [(6, _)] ⟨rfl, trivial⟩ (bG hfin Tryz.results5 rfl ?_))))
 exact ⟨rfl, hB⟩
end Go.Proofs.YtllmbkmghmmhfaaGreatDoor.W
namespace Go.Proofs.YtllmbkmghmmhfaaGreatDoor.SignDone
open Go Go.Eng Go.Byt Go.Sha Go.ChangeShapes Go.WideShapes Go.ChangeAt Go.RowKit Go.Proofs.YtllmbkmghmmhfaaGreatDoor.W
theorem qm {W : World} {nm : String} {g T E m fuel : Nat} {zs : List Int} {cs : Array Value} {p : List MemPlace} (hg : Tryz.prog.globalNamed nm = some g) (hT : Tryz.prog.underlying T = some (.array m E)) (hE : Tryz.prog.underlying E = some (.int .u64)) (hc : Tryz.prog.cellsOf E = 1) (hm : zs.length = m)
   (hv : W.var? Tryz.prog nm = some cs) (hd : DataW.trod (fun _ => ()) Tryz.prog W 0 (fun _ => true) false fuel T cs.toList = some (.agg (zs.map fun n => .lit (.int .u64 n)), p)) : Row W ⟨g, 0, none⟩ (zs.map fun n => .int .u64 n) := by
 intro r u hu
 obtain ⟨xs, m', _, ex, _, hl, hel⟩ := DataW.trod_array hT hd
 have hr : r < zs.length := by
   rcases Nat.lt_or_ge r zs.length with h | h
   · exact h
   · rw [List.getElem?_eq_none (by rw [List.length_map]; exact h)] at hu; cases hu
 have hE' := hel r (by omega)
 rw [hc, Nat.mul_one, List.getElem?_eq_getElem (by omega)] at hE'
 obtain ⟨z, e1, e2, _⟩ := DataW.trod_int hE hE'
 have e3 : (xs.map (·.1)) = zs.map fun n => .lit (.int .u64 n) := (DataW.agg.inj (Prod.mk.inj ex).1).symm
 have e4 : (xs.map (·.1))[r]? = (zs.map fun n => (DataW.lit (.int .u64 n) : DataW Unit))[r]? := by rw [e3]
 rw [List.getElem?_map, List.getElem?_map, List.getElem?_eq_getElem (by omega : r < xs.length), List.getElem?_eq_getElem hr, e2] at e4
 have hz : z = zs[r] := by
   simp only [Option.map_some, Option.some.injEq, DataW.lit.injEq, Lit.int.injEq, true_and] at e4
   exact e4
 rw [List.getElem?_map, List.getElem?_eq_getElem hr] at hu
 simp only [Option.map_some, Option.some.injEq] at hu
 have e5 : cs.toList[r]? = some (.int .u64 z) := by
   have h0 : ((cs.toList.drop r).take 1)[0]? = some (.int .u64 z) := by rw [e1]; rfl
   simpa using h0
 have e6 : (⟨g, 0, none⟩ : Addr).add r = ⟨g, r, none⟩ := by rw [Addr.add_lit, Nat.zero_add]
 rw [e6, World.var?_cell hg hv r, ← hu, ← hz]
 simpa using e5
theorem sq_data : (Rows.laid_synod_sha_squares : DataW Unit) = .agg (((KB Hl).map fun x => (x.toNat : Int)).map fun n => .lit (.int .u64 n)) := by kernel_rfl
theorem cu_data : (Rows.laid_synod_sha_cubes : DataW Unit) = .agg (((KB Kl).map fun x => (x.toNat : Int)).map fun n => .lit (.int .u64 n)) := by kernel_rfl
theorem qb : iv .u64 8 (wN (KB Hl)) = ((KB Hl).map fun x => (x.toNat : Int)).map fun n => .int .u64 n := by kernel_rfl
theorem sJ : iv .u64 80 (wN (KB Kl)) = ((KB Kl).map fun x => (x.toNat : Int)).map fun n => .int .u64 n := by kernel_rfl
theorem tabs_of {W : World} (h : laidMetH Tryz.prog [("synod/sha.cubes", Rows.laid_synod_sha_cubes), ("synod/sha.squares", Rows.laid_synod_sha_squares)] W) : Tabs W := by
 rw [MakeChecks.laidMetH_plain _ _ _ (by kernel_rfl)] at h
 obtain ⟨ps, ⟨g, t, cs, fuel, p, q, hg, ht, hv, hd, ⟨g', t', cs', fuel', p', q', hg', ht', hv', hd', _, _⟩, _⟩, _, _⟩ := h
 obtain rfl := Option.some.inj ((show Tryz.prog.globalNamed "synod/sha.cubes" = some 1 by kernel_rfl).symm.trans hg)
 obtain rfl := Option.some.inj ((show (Tryz.prog.globals[1]?).map (·.type) = some 150 by kernel_rfl).symm.trans ht)
 obtain rfl := Option.some.inj ((show Tryz.prog.globalNamed "synod/sha.squares" = some 0 by kernel_rfl).symm.trans hg')
 obtain rfl := Option.some.inj ((show (Tryz.prog.globals[0]?).map (·.type) = some 131 by kernel_rfl).symm.trans ht')
 rw [cu_data] at hd
 rw [sq_data] at hd'
 have c5 : Tryz.prog.cellsOf 47 = 1 := by kernel_rfl
 refine ⟨?_, ?_⟩
 · rw [qb]; exact qm hg' aD aN c5 (by decide +kernel) hv' hd'
 · rw [sJ]; exact qm hg aV aN c5 (by decide +kernel) hv hd
theorem own : ownKnob Tryz.prog.godebug = none := by kernel_rfl
theorem laidOut : laidOutB Tryz.prog = true := by kernel_rfl
end Go.Proofs.YtllmbkmghmmhfaaGreatDoor.SignDone
