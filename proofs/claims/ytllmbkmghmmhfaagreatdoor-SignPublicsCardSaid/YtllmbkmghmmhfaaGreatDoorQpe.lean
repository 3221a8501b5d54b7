/- Contracts and laws, part 5 of 6: what each function of the program and of the reference computes, shown once. -/
import Derived.Test.YtllmbkmghmmhfaaGreatDoorQpd
set_option maxRecDepth 100000
set_option maxHeartbeats 4000000
set_option linter.unusedVariables false
set_option linter.unusedSimpArgs false
namespace Go.Proofs.YtllmbkmghmmhfaaGreatDoor.W
open Go Go.Eng Go.Byt
open Go.Sha
theorem mg (l0 l1 u0 u1 : Value) (v : Value) (xs : List UInt8) (w : World) (hv : RdB w v xs) (hx : xs.length ≤ 140737488354000) : Rets Tryz.prog 105 [.agg [.int .i64 64, .int .i64 128, .int .i64 80, l0, l1, u0, u1].toArray, v] w (fun r w' => OwnB w' w.heap.size r (pad 64 xs) ∧ Keep [] w w') := by
 have hB : Keep [] w w := Keep.refl _ _
 have hz := iZ (n := 64) (len := xs.length) (by decide) (by decide)
 refine ac Tryz.func105 rfl (by decide) Tryz.ntmps105 rfl (fun fin _ hfin => a5 (aZ (ad (bZ (cs := [.int .i64 64, .int .i64 128, .int .i64 80, l0, l1, u0, u1]) rfl rfl) rfl ?_)))
 rintro _ w1 ⟨b1, rfl, eb1, hb1, k1, z1⟩
 replace hB := hB.trans k1
 clear eb1 z1
 refine oga rfl rfl (a6 (a5 (aZ (ad (eO (m := 0) (xs := []) (vs := []) aA cf (by decide) rfl rfl rfl (by first | (simp; done) | (intro v hv; rw [List.mem_singleton] at hv; subst hv; rfl)) (by decide)) rfl ?_))))
 rintro v1 w2 ⟨o1, nn1, lb1, k2, z2⟩
 have gl_o1 := hB.size
 have sb_b1_o1 := fun x hx => (show x ≠ b1 from by have h1 := (o1.blk x hx).1; have h2 := hb1.lt; omega)
 obtain ⟨hB, hb1⟩ := bL k2 hB hb1
 replace o1 : Own w2 _ _ 1 v1 0 (bv []) := o1
 refine ogm rfl rfl ?_
 replace o1 := o1.lo gl_o1
 have lt_b1_o2 := hb1.lt
 refine ad (eI (xs := []) (ys := xs) aA cf rfl (show Own _ _ _ 1 _ 0 (bv []) from o1) rfl (hv.sD hB) (by omega) (by have := hB.size; omega)) rfl ?_
 rintro v2 w3 ⟨o2, k3, lb2, _⟩
 replace hB := hB.new k3 (fun x hx => .inl (o1.blk x hx).1)
 replace hb1 := hb1.keep k3 (fun hm => sb_b1_o1 _ hm rfl)
 have sb_b1_o2 := fun x hx => (lb2 x hx).elim (sb_b1_o1 x) (fun h => (show x ≠ b1 from by omega))
 replace o2 : OwnB w3 w.heap.size v2 xs := by unfold OwnB; simpa using o2
 refine ad (eO (m := 1) (xs := [.const (.int .u8 (128))]) (vs := [_]) aA cf (by decide) rfl rfl rfl (by first | (simp; done) | (intro v hv; rw [List.mem_singleton] at hv; subst hv; rfl)) (by decide)) rfl ?_
 rintro v3 w4 ⟨o3, nn2, lb3, k4, z3⟩
 replace hb1 := hb1.sD k4
 replace o2 := o2.sD k4
 replace hB := hB.trans k4
 replace o3 : Own w4 _ _ 1 v3 1 (bv [128]) := o3
 have lt_b1_o4 := hb1.lt
 refine ad (eI (xs := xs) (ys := [128]) aA cf rfl (show OwnB _ _ _ _ from o2) rfl (show RdB _ _ _ from o3.rd) (by simp only [List.length_singleton]; omega) (by have := hB.size; omega)) rfl ?_
 rintro v4 w5 ⟨o4, k5, lb4, _⟩
 replace hB := hB.new k5 (fun x hx => .inl (o2.blk x hx).1)
 replace hb1 := hb1.keep k5 (fun hm => sb_b1_o2 _ hm rfl)
 have sb_b1_o4 := fun x hx => (lb4 x hx).elim (sb_b1_o2 x) (fun h => (show x ≠ b1 from by omega))
 replace o4 : OwnB w5 w.heap.size v4 ((xs ++ 128 :: List.replicate 0 0)) := by unfold OwnB; rw [List.replicate_zero, List.length_append]; exact o4
 refine oga rfl rfl (a6 (a5 (ab (bT (Γ := Nat × Value) (fun ⟨j, o⟩ => [(1, v), (2, .pointer (some ⟨b1, 0, none⟩)), (5, o)]) (fun ⟨j, o⟩ W => j ≤ zs 64 xs.length ∧ OwnB W w.heap.size o (xs ++ 128 :: List.replicate j 0) ∧ (∀ x, x ∈ vblk o → x ≠ b1) ∧ Bk W b1 116 [.int .i64 64, .int .i64 128, .int .i64 80, l0, l1, u0, u1] ∧ Keep [] w W) (fun ⟨j, o⟩ => zs 64 xs.length - j) ⟨0, v4⟩ ⟨rfl, rfl, rfl, trivial⟩ (⟨by omega, o4, sb_b1_o4, hb1, hB⟩) ?_))))
 rintro ⟨j, o⟩ w6 ⟨hj0, ow, hno, hbz, hB⟩
 refine a9 [(1, v), (2, .pointer (some ⟨b1, 0, none⟩)), (5, o)] ⟨rfl, rfl, rfl, trivial⟩ ?_
 have hlo : (xs ++ 128 :: List.replicate j 0).length = xs.length + 1 + j := by rw [List.length_append, List.length_cons, List.length_replicate]; omega
 refine a5 (a5 (aZ (ogm rfl rfl (a7 (cT (v' := .int .i64 ((xs.length + 1 + j : Nat) : Int)) (cH aA rfl ow.rd) (by rw [hlo])) rfl (a7 (ax 1 aN rfl cj (by decide) rfl rfl) rfl (a7 (ah dl rfl hbz rfl) rfl (a7 (bC (j := 16) (er rfl rfl (by decide)) (by decide)) rfl (a7 (bo rfl rfl (by omega)) rfl (a7 (ax 1 aN rfl cj (by decide) rfl rfl) rfl (a7 (ah dl rfl hbz rfl) rfl (a7 (fL rfl rfl (by omega)) rfl (a7 (eU rfl rfl) rfl ?_))))))))))))
 refine a6 (ba rfl (fun hc1 => ?_) (fun hc1 => ?_))
 ·
  refine ag (ab (aZ (ogm rfl rfl (ad (eO (m := 1) (xs := [.const (.int .u8 (0))]) (vs := [_]) aA cf (by decide) rfl rfl rfl (by first | (simp; done) | (intro v hv; rw [List.mem_singleton] at hv; subst hv; rfl)) (by decide)) rfl ?_))))
  rintro v5 w7 ⟨o5, nn3, lb5, k6, z4⟩
  replace ow := ow.sD k6
  obtain ⟨hB, hbz⟩ := bL k6 hB hbz
  replace o5 : Own w7 _ _ 1 v5 1 (bv [0]) := o5
  have lt_b1_o6 := hbz.lt
  refine ad (eI (xs := (xs ++ 128 :: List.replicate j 0)) (ys := [0]) aA cf rfl (show OwnB _ _ _ _ from ow) rfl (show RdB _ _ _ from o5.rd) (by rw [hlo]; simp only [List.length_singleton]; omega) (by have := hB.size; omega)) rfl ?_
  rintro v6 w8 ⟨o6, k7, lb6, _⟩
  replace hB := hB.new k7 (fun x hx => .inl (ow.blk x hx).1)
  replace hbz := hbz.keep k7 (fun hm => hno _ hm rfl)
  have sb_b1_o6 := fun x hx => (lb6 x hx).elim (hno x) (fun h => (show x ≠ b1 from by omega))
  replace o6 : OwnB w8 w.heap.size v6 ((xs ++ 128 :: List.replicate (j + 1) 0)) := by unfold OwnB; rw [zstep, List.length_append]; exact o6
  refine oga rfl rfl (a6 (a9 [(1, _), (2, _), (5, _)] ⟨rfl, rfl, rfl, trivial⟩ (bf (bX (Γ := Nat × Value) ⟨j + 1, v6⟩ ⟨rfl, rfl, rfl, trivial⟩ (by (try dsimp only); omega) (⟨by omega, o6, sb_b1_o6, hbz, hB⟩)))))
 ·
  refine bF rfl (a5 (aZ (ogm rfl rfl (a7 (cH aA rfl (by first | assumption | exact Own.rd ‹_› | exact Rd.sD ‹_› hB | exact Own.rd (Own.sD ‹_› hB))) rfl ?_))))
  obtain rfl : j = zs 64 xs.length := by omega
  refine a7 (cT (v' := .int .u64 (xs.length : Int)) (ef (by rw [aK]; rfl) aM rfl) (by rw [fQ, Int.emod_eq_of_lt (by omega) (by omega)])) rfl (a7 (cT (v' := .int .u64 (8 * (xs.length : Int))) (dX rfl rfl) (by rw [fQ, Int.emod_eq_of_lt (by omega) (by omega), Int.mul_comm])) rfl (oga rfl rfl (a6 (a9 [(2, _), (5, _), (6, _)] ⟨rfl, rfl, rfl, trivial⟩ (a5 (a5 (aZ (a7 (ax 1 aN rfl cj (by decide) rfl rfl) rfl (a7 (ah dl rfl hbz rfl) rfl (a7 (bC (j := 16) (er rfl rfl (by decide)) (by decide)) rfl (a7 (bC (j := 15) (cX rfl rfl) (by decide)) rfl (oga rfl rfl (a6 (ab ?_))))))))))))))
  obtain ⟨pz, hpz⟩ : ∃ pz, pz = (xs ++ 128 :: List.replicate (zs 64 xs.length) 0) := ⟨_, rfl⟩
  have hlz : pz.length = xs.length + 1 + zs 64 xs.length := by rw [hpz]; exact hlo
  rw [← hpz] at ow
  refine bT (Γ := Nat × Value) (fun ⟨j, u⟩ => [(5, u), (6, .int .u64 (8 * (xs.length : Int))), (7, .int .i64 (15 - (j : Int)))]) (fun ⟨j, u⟩ W => j ≤ 16 ∧ OwnB W w.heap.size u (pz ++ (List.replicate 8 0 ++ be (8 * (xs.length : Int)) 8).take j) ∧ Keep [] w W) (fun ⟨j, u⟩ => 16 - j) ⟨0, _⟩ ⟨rfl, rfl, rfl, trivial⟩ (⟨by omega, by rw [List.take_zero, List.append_nil]; exact ow, hB⟩) ?_
  rintro ⟨j, u⟩ w9 ⟨hj0, ow, hB⟩
  refine a9 [(5, u), (6, .int .u64 (8 * (xs.length : Int))), (7, .int .i64 (15 - (j : Int)))] ⟨rfl, rfl, rfl, trivial⟩ ?_
  have hlj : (pz ++ (List.replicate 8 0 ++ be (8 * (xs.length : Int)) 8).take j).length = xs.length + 1 + zs 64 xs.length + j := by rw [List.length_append, hlz, List.length_take, List.length_append, List.length_replicate, dG]; omega
  refine a5 (a5 (aZ (ogm rfl rfl (a7 (j7 rfl rfl) rfl (a6 (ba rfl (fun hc2 => ?_) (fun hc2 => ?_)))))))
  ·
   refine ag (a5 (ab (a5 (aZ (ogm rfl rfl (a7 (j7 rfl rfl) rfl (a6 (ba rfl (fun hc3 => ?_) (fun hc3 => ?_)))))))))
   ·
    refine aZ (ogm rfl rfl (ad (eO (m := 1) (xs := [.const (.int .u8 (0))]) (vs := [_]) aA cf (by decide) rfl rfl rfl (by first | (simp; done) | (intro v hv; rw [List.mem_singleton] at hv; subst hv; rfl)) (by decide)) rfl ?_))
    rintro v7 w10 ⟨o7, nn4, lb7, k8, z5⟩
    replace ow := ow.sD k8
    replace hB := hB.trans k8
    replace o7 : Own w10 _ _ 1 v7 1 (bv [0]) := o7
    have e1 : (List.replicate 8 0 ++ be (8 * (xs.length : Int)) 8).take (j + 1) = (List.replicate 8 0 ++ be (8 * (xs.length : Int)) 8).take j ++ [0] := dy (by rw [List.getElem?_append_left (by rw [List.length_replicate]; omega), List.getElem?_replicate, if_pos (by omega)])
    refine ad (eI (xs := (pz ++ (List.replicate 8 0 ++ be (8 * (xs.length : Int)) 8).take j)) (ys := [0]) aA cf rfl (show OwnB _ _ _ _ from ow) rfl (show RdB _ _ _ from o7.rd) (by rw [hlj]; simp only [List.length_singleton]; omega) (by have := hB.size; omega)) rfl ?_
    rintro v8 w11 ⟨o8, k9, lb8, _⟩
    replace hB := hB.new k9 (fun x hx => .inl (ow.blk x hx).1)
    replace o8 : OwnB w11 w.heap.size v8 (pz ++ (List.replicate 8 0 ++ be (8 * (xs.length : Int)) 8).take (j + 1)) := by unfold OwnB; rw [e1, ← List.append_assoc, List.length_append]; exact o8
    refine oga rfl rfl (a6 (bf (aZ (ogm rfl rfl (a7 (cT (v' := .int .i64 (15 - ((j + 1 : Nat) : Int))) (cy rfl rfl (by omega)) (by congr 1; omega)) rfl (oga rfl rfl (a6 (bX (Γ := Nat × Value) ⟨j + 1, v8⟩ ⟨rfl, rfl, rfl, trivial⟩ (by (try dsimp only); omega) (⟨by omega, o8, hB⟩)))))))))
   ·
    refine aZ (ogm rfl rfl (ogm rfl rfl (ogm rfl rfl (a7 (fe rfl rfl (by omega)) rfl (a7 (lw (by rw [aK]; rfl) aR rfl (by omega)) rfl (a7 (fb rfl rfl ⟨by omega, (show _ ≤ ((64 : Nat) : Int) from by omega)⟩) rfl (a7 (ef (by rw [aM]; rfl) aH rfl) rfl (ad (eO (m := 1) (xs := [.tmp 49]) (vs := [_]) aA cf (by decide) rfl rfl rfl (by first | (simp; done) | (intro v hv; rw [List.mem_singleton] at hv; subst hv; rfl)) (by decide)) rfl ?_))))))))
    rintro v9 w12 ⟨o9, nn5, lb9, k10, z6⟩
    replace ow := ow.sD k10
    replace hB := hB.trans k10
    have hby : IntKind.u8.wrap ((8 * (xs.length : Int)) / 2 ^ (8 * (15 - (j : Int))).toNat) = ((byteAt (8 * (xs.length : Int)) (7 - (j - 8))).toNat : Int) := by rw [ej, IntKind.wrap_u8]; congr 3; omega
    replace o9 := gm o9 hby
    have e1 : (List.replicate 8 0 ++ be (8 * (xs.length : Int)) 8).take (j + 1) = (List.replicate 8 0 ++ be (8 * (xs.length : Int)) 8).take j ++ [byteAt (8 * (xs.length : Int)) (7 - (j - 8))] := dy (by rw [List.getElem?_append_right (by rw [List.length_replicate]; omega), List.length_replicate]; simp only [be, List.getElem?_map]; rw [List.getElem?_range (by omega)]; rfl)
    refine ad (eI (xs := (pz ++ (List.replicate 8 0 ++ be (8 * (xs.length : Int)) 8).take j)) (ys := [byteAt (8 * (xs.length : Int)) (7 - (j - 8))]) aA cf rfl (show OwnB _ _ _ _ from ow) rfl (show RdB _ _ _ from o9.rd) (by rw [hlj]; simp only [List.length_singleton]; omega) (by have := hB.size; omega)) rfl ?_
    rintro v10 w13 ⟨o10, k11, lb10, _⟩
    replace hB := hB.new k11 (fun x hx => .inl (ow.blk x hx).1)
    replace o10 : OwnB w13 w.heap.size v10 (pz ++ (List.replicate 8 0 ++ be (8 * (xs.length : Int)) 8).take (j + 1)) := by unfold OwnB; rw [e1, ← List.append_assoc, List.length_append]; exact o10
    refine oga rfl rfl (a6 (a9 [(5, _), (6, _), (7, _)] ⟨rfl, rfl, rfl, trivial⟩ (bf (aZ (ogm rfl rfl (a7 (cT (v' := .int .i64 (15 - ((j + 1 : Nat) : Int))) (cy rfl rfl (by omega)) (by congr 1; omega)) rfl (oga rfl rfl (a6 (bX (Γ := Nat × Value) ⟨j + 1, v10⟩ ⟨rfl, rfl, rfl, trivial⟩ (by (try dsimp only); omega) (⟨by omega, o10, hB⟩))))))))))
  ·
   refine bF rfl (a5 (aZ (ogm rfl rfl (oga rfl rfl (a6 (bN hfin Tryz.results105 rfl ?_))))))
   obtain rfl : j = 16 := by omega
   have e : pad 64 xs = pz ++ (List.replicate 8 0 ++ be (8 * (xs.length : Int)) 8).take 16 := by rw [hpz, q8, List.take_of_length_le (by rw [List.length_append, List.length_replicate, dG]; decide), List.append_assoc]
   refine ⟨?_, hB⟩
   rw [e]; exact ow
theorem pP (X : S8 64) (i : Nat) : (((eR X).take i).flatMap fun x => be (x.toNat : Int) 8).length ≤ 64 := by
  have h : ∀ l : List (BitVec 64), (l.flatMap fun x => be (x.toNat : Int) 8).length = 8 * l.length := by
    intro l
    induction l with
    | nil => rfl
    | cons x r ih => rw [List.flatMap_cons, List.length_append, ih, dG, List.length_cons]; omega
  rw [h, List.length_take]; have : (eR X).length = 8 := rfl; omega
theorem qH (l0 l1 u0 u1 : Value) (v : Value) (xs : List UInt8) (w : World) (hl0 : Rd w 1 l0 3 [.int .i64 1, .int .i64 8, .int .i64 7]) (hl1 : Rd w 1 l1 3 [.int .i64 19, .int .i64 61, .int .i64 6]) (hu0 : Rd w 1 u0 3 [.int .i64 28, .int .i64 34, .int .i64 39]) (hu1 : Rd w 1 u1 3 [.int .i64 14, .int .i64 18, .int .i64 41]) (hv : RdB w v xs) (hx : xs.length ≤ 140737488354000) : Rets Tryz.prog 84 [.agg [.int .i64 64, .int .i64 128, .int .i64 80, l0, l1, u0, u1].toArray, v] w (fun r w' => OwnB w' w.heap.size r (Sha.sum cS Kl Hl xs) ∧ Keep [] w w') := by
  have hB : Keep [] w w := Keep.refl _ _
  have hhl : (KB Hl).length = 8 := rfl
  refine ac Tryz.func84 rfl (by decide) Tryz.ntmps84 rfl (fun fin _ hfin => a5 (aZ (ad (bZ (cs := [.int .i64 64, .int .i64 128, .int .i64 80, l0, l1, u0, u1]) rfl rfl) rfl ?_)))
  rintro _ w1 ⟨b1, rfl, eb1, hb1, k1, z1⟩
  replace hB := hB.trans k1
  clear eb1 z1
  refine oga rfl rfl (a6 (a5 (aZ (ad (a8 (vs := []) rfl (ir _)) rfl ?_))))
  rintro v1 w2 ⟨o1, k2⟩
  have gl_o1 := hB.size
  obtain ⟨hB, hb1⟩ := bL k2 hB hb1
  refine oga rfl rfl (a6 (a5 (aZ (ad (a8 (vs := []) rfl (mZ _)) rfl ?_))))
  rintro v2 w3 ⟨o2, k3⟩
  have gl_o2 := hB.size
  replace hb1 := hb1.sD k3
  replace o1 := o1.sD k3
  replace hB := hB.trans k3
  refine oga rfl rfl (a6 (a5 (aZ (oga rfl rfl (a6 (a5 (a5 (aZ ?_))))))))
  refine oga rfl rfl (a6 (ab ?_))
  obtain ⟨Z, hZ⟩ : ∃ Z, Z = w3.heap.size := ⟨_, rfl⟩
  have zb : b1 < Z := by have := hb1.lt; omega
  have zo_oK : ∀ x, x ∈ vblk v1 → x < Z := fun x hx => by have := (o1.blk x hx).2; omega
  have zo_oH : ∀ x, x ∈ vblk v2 → x < Z := fun x hx => by have := (o2.blk x hx).2; omega
  have zw : w.heap.size ≤ Z := by have := hB.size; omega
  have oK := o1.lo gl_o1; have oH := o2.lo gl_o2
  refine bT (Γ := Nat × Value) (fun ⟨i, o⟩ => [(1, v), (2, .pointer (some ⟨b1, 0, none⟩)), (5, v1), (6, v2), (7, o), (8, .int .i64 (i : Int))]) (fun ⟨i, o⟩ W => i ≤ 8 ∧ OwnW W Z o ((List.range i).map (cst 64 Hl)) ∧ OwnW W w.heap.size v1 (KB Kl) ∧ OwnW W w.heap.size v2 (KB Hl) ∧ Bk W b1 116 [.int .i64 64, .int .i64 128, .int .i64 80, l0, l1, u0, u1] ∧ Z ≤ W.heap.size ∧ Keep [] w W) (fun ⟨i, o⟩ => 8 - i) ⟨0, .slice none 0 0⟩ ⟨rfl, rfl, rfl, rfl, rfl, rfl, trivial⟩ (⟨by omega, dO _ _ _ _, oK, oH, hb1, by omega, hB⟩) ?_
  rintro ⟨i, o⟩ w4 ⟨hi0, ow, oK, oH, hbz, hZs, hB⟩
  refine a9 [(1, v), (2, .pointer (some ⟨b1, 0, none⟩)), (5, v1), (6, v2), (7, o), (8, .int .i64 (i : Int))] ⟨rfl, rfl, rfl, rfl, rfl, rfl, trivial⟩ ?_
  have hwl : ((List.range i).map (cst 64 Hl)).length = i := by simp
  refine a5 (a5 (aZ (ogm rfl rfl (a7 (bg rfl rfl) rfl (a6 (ba rfl (fun hc1 => ?_) (fun hc1 => ?_)))))))
  · -- yes
    refine ag (a5 (ab (bO 11 [0, 1, 2, 3, 4, 5, 6, 7, 8, 9, 10] [10] [] [] mixed [(7, _), (6, _), (8, _), (2, _), (1, _), (5, _)] ⟨rfl, rfl, rfl, rfl, rfl, rfl, trivial⟩ (by decide +kernel) (by decide) (by decide) ?_ (fun x hx => by cases hx) rfl (fun w5 k4 => ?_))))
    · intro q hq; cases hq
    replace ow := ow.sD k4
    replace oK := oK.sD k4
    replace oH := oH.sD k4
    obtain ⟨hB, hbz⟩ := bL k4 hB hbz
    refine cA 7 rfl rfl rfl rfl rfl (cA 6 rfl rfl rfl rfl rfl (cA 8 rfl rfl rfl rfl rfl (cm 21 22 rfl rfl rfl rfl rfl (fun W' kk => bk aC af rfl (Rd.sD oH.rd kk) rfl (by omega)) (al 23 rfl rfl rfl rfl (fun W' kk => co (l := (KB Hl)) i au rfl (Rd.sD oH.rd kk) rfl (by omega)) (al 2 rfl rfl rfl rfl (fun W' kk => ax 0 aN rfl cj (by decide) rfl rfl) (al 25 rfl rfl rfl rfl (fun W' kk => ah dl rfl (Bk.sD hbz kk) rfl) (al 26 rfl rfl rfl rfl (fun W' kk => bC (j := 0) (cX rfl rfl) (by decide)) (al 27 rfl rfl rfl rfl (fun W' kk => bC (j := 0) (ef (by rw [aK]; rfl) aR rfl) (by decide)) ?_))))))))
    refine cm 24 28 rfl rfl rfl rfl rfl (fun W' kk => eG 0 rfl rfl rfl (by decide)) (bm [(29, _)] rfl rfl ⟨rfl, trivial⟩ rfl (fun w7 k6 => ?_))
    replace ow := ow.sD k6
    replace oK := oK.sD k6
    replace oH := oH.sD k6
    obtain ⟨hB, hbz⟩ := bL k6 hB hbz
    refine (eO (m := 1) (xs := [.tmp 29]) (vs := [_]) aC af (by decide) rfl rfl rfl (by first | (simp; done) | (intro v hv; rw [List.mem_singleton] at hv; subst hv; rfl)) (by decide)).mono ?_
    rintro v3 w6 ⟨o3, nn1, lb1, k5, z2⟩
    refine ⟨k5, (fun x hx => ⟨.inr (o3.blk x (o3.rd.cblk ▸ hx)).1, (o3.blk x (o3.rd.cblk ▸ hx)).2⟩), ?_⟩
    replace ow := ow.sD k5
    replace oK := oK.sD k5
    replace oH := oH.sD k5
    obtain ⟨hB, hbz⟩ := bL k5 hB hbz
    refine cC (fun w8 k7 => ?_)
    replace ow := ow.sD k7
    replace oK := oK.sD k7
    replace oH := oH.sD k7
    replace hbz := hbz.sD k7
    replace o3 := o3.sD k7
    replace hB := hB.trans k7
    refine bP ?_
    have zk4 := k4.size
    have zk5 := k5.size
    have zk6 := k6.size
    have zk7 := k7.size
    refine ad (kq (ys := [cst 64 Hl i]) aC af rfl rfl ow rfl (show RdW _ _ _ from by rw [← ft]; exact o3.rd) (by simp only [List.length_singleton] at *; omega) (by omega)) rfl ?_
    rintro v4 w9 ⟨o4, k8, lb2⟩
    replace hB := hB.new k8 (fun x hx => .inl (by have h1 := (ow.blk x hx).1; omega))
    replace hZs : Z ≤ w9.heap.size := by have h9 := k8.size; omega
    replace oK := oK.keep k8 (fun x hx hm => by have h1 := (ow.blk x hm).1; have h2 := zo_oK x hx; omega)
    replace oH := oH.keep k8 (fun x hx hm => by have h1 := (ow.blk x hm).1; have h2 := zo_oH x hx; omega)
    replace hbz := hbz.keep k8 (fun hm => by have h1 := (ow.blk _ hm).1; omega)
    replace o4 : OwnW w9 Z v4 (((List.range i).map (cst 64 Hl)) ++ [cst 64 Hl i]) := by unfold OwnW; rw [List.length_append]; exact o4
    refine oga rfl rfl (a6 (a9 [(7, _), (6, _), (8, _), (2, _), (1, _), (5, _)] ⟨rfl, rfl, rfl, rfl, rfl, rfl, trivial⟩ (bf (aZ (ogm rfl rfl (a7 (bo rfl rfl (by omega)) rfl (oga rfl rfl (a6 ?_))))))))
    refine bX (Γ := Nat × Value) ⟨i + 1, v4⟩ ⟨rfl, rfl, rfl, rfl, rfl, rfl, trivial⟩ (by (try dsimp only); omega) (⟨by omega, by rw [List.range_succ, List.map_append]; exact o4, oK, oH, hbz, hZs, hB⟩)
  · -- no
    refine bF rfl (a5 (aZ (a7 (aa (cs' := [_, _, _, _, _, _, _]) dL cx rfl hbz rfl rfl) rfl (ogm rfl rfl (ad (a8 (vs := [_, _]) rfl (mg _ _ _ _ _ xs _ (hv.sD hB) hx)) rfl ?_)))))
    rintro v5 w10 ⟨o5, k9⟩
    have gl_o5 := hB.size
    replace ow := ow.sD k9
    replace oK := oK.sD k9
    replace oH := oH.sD k9
    obtain ⟨hB, hbz⟩ := bL k9 hB hbz
    refine oga rfl rfl (a6 (a5 (a5 (aZ (oga rfl rfl (a6 (ab ?_)))))))
    obtain rfl : i = 8 := by omega
    have hPM := jA xs; have hPL := q7 xs
    obtain ⟨M, hM⟩ : ∃ M, M = ((pad 64 xs).length / (2 * 64)) := ⟨_, rfl⟩
    rw [← hM] at hPM
    have oP := o5.lo gl_o5
    refine bT (Γ := Nat × S8 64 × Value) (fun ⟨m, X, o⟩ => [(2, .pointer (some ⟨b1, 0, none⟩)), (5, v1), (7, o), (9, v5), (10, .int .i64 (128 * (m : Int)))]) (fun ⟨m, X, o⟩ W => m ≤ M ∧ blks cS Kl (M - m) ((pad 64 xs).drop (128 * m)) X = blks cS Kl M (pad 64 xs) (st8 64 Hl) ∧ OwnW W w.heap.size o (eR X) ∧ OwnW W w.heap.size v1 (KB Kl) ∧ OwnB W w.heap.size v5 (pad 64 xs) ∧ Bk W b1 116 [.int .i64 64, .int .i64 128, .int .i64 80, l0, l1, u0, u1] ∧ Keep [] w W) (fun ⟨m, X, o⟩ => M - m) ⟨0, st8 64 Hl, o⟩ ⟨rfl, rfl, rfl, rfl, rfl, trivial⟩ (⟨by omega, rfl, ow.lo zw, oK, oP, hbz, hB⟩) ?_
    rintro ⟨m, X, o⟩ w11 ⟨hm0, heq, ow, oK, oP, hbz, hB⟩
    refine a9 [(2, .pointer (some ⟨b1, 0, none⟩)), (5, v1), (7, o), (9, v5), (10, .int .i64 (128 * (m : Int)))] ⟨rfl, rfl, rfl, rfl, rfl, trivial⟩ ?_
    have hcu := oP.rd.vcap
    have hlu : ((pad 64 xs).drop (128 * m)).length = (pad 64 xs).length - 128 * m := List.length_drop
    refine a5 (a5 (aZ (ogm rfl rfl (ogm rfl rfl (a7 (cT (v' := .int .i64 ((pad 64 xs).length : Int)) (cH aA rfl oP.rd) rfl) rfl (a7 (bg rfl rfl) rfl (a6 (ba rfl (fun hc2 => ?_) (fun hc2 => ?_)))))))))
    · -- yes
      refine ag (a5 (ab (bc 11 [0, 1, 2, 3, 4, 5, 6, 7, 8, 9, 10] [10] [] mixed [(2, _), (7, _), (5, _), (9, _), (10, _)] ⟨rfl, rfl, rfl, rfl, rfl, trivial⟩ (by decide +kernel) rfl (fun w12 k10 => ?_))))
      replace ow := ow.sD k10
      replace oK := oK.sD k10
      replace oP := oP.sD k10
      obtain ⟨hB, hbz⟩ := bL k10 hB hbz
      refine am 2 rfl rfl rfl rfl (fun W' kk => aa (cs' := [_, _, _, _, _, _, _]) dL cx rfl (Bk.sD hbz kk) rfl rfl) (bH 7 rfl rfl rfl rfl rfl (bH 5 rfl rfl rfl rfl rfl (bH 9 rfl rfl rfl rfl rfl (bH 10 rfl rfl rfl rfl rfl (bH 10 rfl rfl rfl rfl rfl (am 2 rfl rfl rfl rfl (fun W' kk => ax 1 aN rfl cj (by decide) rfl rfl) (am 49 rfl rfl rfl rfl (fun W' kk => ah dl rfl (Bk.sD hbz kk) rfl) (cE 48 50 rfl rfl rfl rfl rfl (fun W' kk => bo rfl rfl (by omega)) ?_))))))))
      have hge : 128 * m + 128 ≤ (pad 64 xs).length := by omega
      refine kK [(46, _), (47, _), (51, _)] rfl rfl ⟨rfl, rfl, rfl, trivial⟩ rfl (fun W' kk => cT (v' := (cut v5 (128 * m) (128 * m + 128) 1)) (gM aA cf rfl (Rd.sD oP.rd kk) (.inr ⟨_, _, rfl, rfl⟩) (.inr ⟨_, _, rfl, rfl⟩) ⟨by omega, by omega, by omega⟩) (by rw [show ((128 : Int) * (m : Int)).toNat = 128 * m from by omega, show ((128 : Int) * (m : Int) + 128).toNat = 128 * m + 128 from by omega])) (bq [(43, _), (44, _), (45, _), (52, _)] rfl rfl ⟨rfl, rfl, rfl, rfl, trivial⟩ rfl (a8 (vs := [_, _, _, _]) rfl (mc _ _ _ _ _ _ _ ((pad 64 xs).drop (128 * m) |>.take 128) X _ (hl0.sD hB) (hl1.sD hB) (hu0.sD hB) (hu1.sD hB) ow.rd oK.rd (by have := oP.rd.cutB (l := 128 * m) (hi := 128 * m + 128) (by omega) (by omega); rw [show 128 * m + 128 - 128 * m = 128 from by omega] at this; exact this) (by rw [List.length_take, hlu]; omega))) ?_)
      rintro v6 w13 ⟨o6, k11⟩
      refine ⟨k11, ?_⟩
      have gl_o6 := hB.size
      replace ow := ow.sD k11
      replace oK := oK.sD k11
      replace oP := oP.sD k11
      obtain ⟨hB, hbz⟩ := bL k11 hB hbz
      refine bx (oga rfl rfl (a6 (a9 [(2, _), (7, _), (5, _), (9, _), (10, _)] ⟨rfl, rfl, rfl, rfl, rfl, trivial⟩ (bf (aZ (ogm rfl rfl (a7 (ax 1 aN rfl cj (by decide) rfl rfl) rfl (a7 (ah dl rfl hbz rfl) rfl ?_))))))))
      refine a7 (cT (v' := .int .i64 (128 * ((m + 1 : Nat) : Int))) (bo rfl rfl (by omega)) (congrArg (Value.int .i64) (by omega))) rfl (oga rfl rfl (a6 (bX (Γ := Nat × S8 64 × Value) ⟨m + 1, blk cS Kl (((pad 64 xs).drop (128 * m)).take 128) X, v6⟩ ⟨rfl, rfl, rfl, rfl, rfl, trivial⟩ (by (try dsimp only); omega) (⟨by omega, by rw [← heq, jx (show 0 < M - m from by omega), List.drop_drop]; rfl, o6.lo gl_o6, oK, oP, hbz, hB⟩))))
    · -- no
      refine bF rfl (a5 (aZ (oga rfl rfl (a6 (a5 (a5 (aZ (oga rfl rfl ?_))))))))
      refine a6 (ab ?_)
      obtain rfl : m = M := by omega
      rw [Nat.sub_self] at heq
      obtain ⟨Z2, hZ2⟩ : ∃ Z, Z = w11.heap.size := ⟨_, rfl⟩
      have zb2 : b1 < Z2 := by have := hbz.lt; omega
      have zo_ow : ∀ x, x ∈ vblk o → x < Z2 := fun x hx => by have := (ow.blk x hx).2; omega
      have zw2 : w.heap.size ≤ Z2 := by have := hB.size; omega
      refine bT (Γ := Nat × Value) (fun ⟨i, q⟩ => [(2, .pointer (some ⟨b1, 0, none⟩)), (7, o), (11, q), (12, .int .i64 (i : Int))]) (fun ⟨i, q⟩ W => i ≤ 8 ∧ OwnB W Z2 q (((eR X).take i).flatMap fun x => be (x.toNat : Int) 8) ∧ OwnW W w.heap.size o (eR X) ∧ Bk W b1 116 [.int .i64 64, .int .i64 128, .int .i64 80, l0, l1, u0, u1] ∧ Z2 ≤ W.heap.size ∧ Keep [] w W) (fun ⟨i, q⟩ => 8 - i) ⟨0, .slice none 0 0⟩ ⟨rfl, rfl, rfl, rfl, trivial⟩ (⟨by omega, dO _ _ _ _, ow, hbz, by omega, hB⟩) ?_
      rintro ⟨i, q⟩ w14 ⟨hi0, oq, ow, hbz, hZs, hB⟩
      refine a9 [(2, .pointer (some ⟨b1, 0, none⟩)), (7, o), (11, q), (12, .int .i64 (i : Int))] ⟨rfl, rfl, rfl, rfl, trivial⟩ ?_
      have hfl : (((eR X).take i).flatMap fun x => be (x.toNat : Int) 8).length ≤ 64 := pP X i
      refine a5 (a5 (aZ (ogm rfl rfl (a7 (bg rfl rfl) rfl (a6 (ba rfl (fun hc3 => ?_) (fun hc3 => ?_)))))))
      · -- yes
        refine ag (a5 (ab (a5 (aZ (a7 (ax 0 aN rfl cj (by decide) rfl rfl) rfl (a7 (ah dl rfl hbz rfl) rfl (a7 (bC (j := 56) (cX rfl rfl) (by decide)) rfl (oga rfl rfl ?_))))))))
        refine a6 (ab ?_)
        obtain ⟨x, hx⟩ : ∃ x, (eR X)[i]? = some x := ⟨_, List.getElem?_eq_getElem (show i < (eR X).length from by show i < 8; omega)⟩
        refine bT (Γ := Nat × Value) (fun ⟨j, q'⟩ => [(2, .pointer (some ⟨b1, 0, none⟩)), (7, o), (11, q'), (12, .int .i64 (i : Int)), (13, .int .i64 (56 - 8 * (j : Int)))]) (fun ⟨j, q'⟩ W => j ≤ 8 ∧ OwnB W Z2 q' ((((eR X).take i).flatMap fun x => be (x.toNat : Int) 8) ++ (be (x.toNat : Int) 8).take j) ∧ OwnW W w.heap.size o (eR X) ∧ Bk W b1 116 [.int .i64 64, .int .i64 128, .int .i64 80, l0, l1, u0, u1] ∧ Z2 ≤ W.heap.size ∧ Keep [] w W) (fun ⟨j, q'⟩ => 8 - j) ⟨0, q⟩ ⟨rfl, rfl, rfl, rfl, rfl, trivial⟩ (⟨by omega, by rw [List.take_zero, List.append_nil]; exact oq, ow, hbz, hZs, hB⟩) ?_
        rintro ⟨j, q'⟩ w15 ⟨hj0, oq, ow, hbz, hZs, hB⟩
        refine a9 [(2, .pointer (some ⟨b1, 0, none⟩)), (7, o), (11, q'), (12, .int .i64 (i : Int)), (13, .int .i64 (56 - 8 * (j : Int)))] ⟨rfl, rfl, rfl, rfl, rfl, trivial⟩ (a5 (a5 (aZ (ogm rfl rfl (a7 (j7 rfl rfl) rfl (a6 (ba rfl (fun hc4 => ?_) (fun hc4 => ?_))))))))
        · -- yes
          refine ag (a5 (ab (aZ (ogm rfl rfl (ogm rfl rfl (ogm rfl rfl (a7 (bk aC af rfl ow.rd rfl (by constructor <;> first | omega | (show (_ : Int) < 8; omega))) rfl (a7 (cT (v' := .int .u64 ((x).toNat : Int)) (co (l := (eR X)) i au rfl ow.rd rfl (by show i < 8; omega)) (by rw [List.getD_eq_getElem?_getD, hx]; rfl)) rfl ?_))))))))
          refine ogm rfl rfl (a7 (lw (by rw [aK]; rfl) aR rfl (by omega)) rfl (a7 (fb rfl rfl (by constructor <;> (try simp only [IntKind.bits]) <;> omega)) rfl (a7 (ef (by rw [aM]; rfl) aH rfl) rfl (ad (eO (m := 1) (xs := [.tmp 73]) (vs := [_]) aA cf (by decide) rfl rfl rfl (by first | (simp; done) | (intro v hv; rw [List.mem_singleton] at hv; subst hv; rfl)) (by decide)) rfl ?_))))
          rintro v7 w16 ⟨o7, nn2, lb3, k12, z3⟩
          replace oq := oq.sD k12
          replace ow := ow.sD k12
          obtain ⟨hB, hbz⟩ := bL k12 hB hbz
          have hby : IntKind.u8.wrap ((x.toNat : Int) / 2 ^ (56 - 8 * (j : Int)).toNat) = ((byteAt (x.toNat : Int) (7 - j)).toNat : Int) := by rw [ej, IntKind.wrap_u8]; congr 3; omega
          replace o7 := gm o7 hby
          have e1 : (be (x.toNat : Int) 8).take (j + 1) = (be (x.toNat : Int) 8).take j ++ [byteAt (x.toNat : Int) (7 - j)] := dy (by simp only [be, List.getElem?_map]; rw [List.getElem?_range (by omega)]; rfl)
          have hl8 : ((be (x.toNat : Int) 8).take j).length ≤ 8 := by rw [List.length_take, dG]; omega
          have zk12 := k12.size
          refine ad (eI aA cf rfl oq rfl (show RdB _ _ [byteAt (x.toNat : Int) (7 - j)] from o7.rd) (by simp only [List.length_append, List.length_singleton]; omega) (by omega)) rfl ?_
          rintro v8 w17 ⟨o8, k13, lb4, _⟩
          replace hB := hB.new k13 (fun x hx => .inl (by have h1 := (oq.blk x hx).1; omega))
          replace hZs : Z2 ≤ w17.heap.size := by have h9 := k13.size; omega
          replace ow := ow.keep k13 (fun x hx hm => by have h1 := (oq.blk x hm).1; have h2 := zo_ow x hx; omega)
          replace hbz := hbz.keep k13 (fun hm => by have h1 := (oq.blk _ hm).1; omega)
          refine oga rfl rfl (a6 (a9 [(2, _), (7, _), (11, _), (12, _), (13, _)] ⟨rfl, rfl, rfl, rfl, rfl, trivial⟩ (bf (aZ (ogm rfl rfl (a7 (cT (v' := .int .i64 (56 - 8 * ((j + 1 : Nat) : Int))) (cy rfl rfl (by omega)) (by congr 1; omega)) rfl (oga rfl rfl (a6 ?_))))))))
          refine bX (Γ := Nat × Value) ⟨j + 1, v8⟩ ⟨rfl, rfl, rfl, rfl, rfl, trivial⟩ (by (try dsimp only); omega) (⟨by omega, by rw [e1, ← List.append_assoc]; unfold OwnB; rw [List.length_append]; exact o8, ow, hbz, hZs, hB⟩)
        · -- no
          refine bF rfl (bf (aZ (ogm rfl rfl (a7 (bo rfl rfl (by omega)) rfl (oga rfl rfl (a6 ?_))))))
          obtain rfl : j = 8 := by omega
          rw [List.take_of_length_le (show (be (x.toNat : Int) 8).length ≤ 8 from by rw [dG]; exact Nat.le_refl _)] at oq
          refine bX (Γ := Nat × Value) ⟨i + 1, q'⟩ ⟨rfl, rfl, rfl, rfl, trivial⟩ (by (try dsimp only); omega) (⟨by omega, by rw [jP hx]; exact oq, ow, hbz, hZs, hB⟩)
      · -- no
        refine bF rfl (a5 (aZ (ogm rfl rfl (oga rfl rfl (a6 (bN hfin Tryz.results84 rfl ?_))))))
        obtain rfl : i = 8 := by omega
        rw [List.take_of_length_le (show (eR X).length ≤ 8 from Nat.le_refl 8)] at oq
        refine ⟨?_, hB⟩
        unfold Sha.sum
        rw [← hM, ← heq]
        exact oq.lo zw2
theorem mM (v : Value) (xs : List UInt8) (w : World) (hT : Tabs w) (hv : RdB w v xs) (hx : xs.length ≤ 140737488354000) : Rets Tryz.prog 36 [v] w (fun r w' => OwnB w' w.heap.size r (Sha.sum cS Kl Hl xs) ∧ Keep [] w w') := by
 have hB : Keep [] w w := Keep.refl _ _
 refine ac Tryz.func36 rfl (by decide) Tryz.ntmps36 rfl (fun fin _ hfin => a5 (aZ (oga rfl rfl (a6 (a5 (aZ (ad (a8 (vs := []) rfl (pd _)) rfl ?_)))))))
 rintro _ w1 ⟨rfl, k1⟩
 replace hB := hB.trans k1
 refine ogm rfl rfl (ad (a8 (vs := [_, _]) rfl (sum_any _ xs _ (hT.sD hB) (hv.sD hB) hx)) rfl ?_)
 rintro v1 w2 ⟨o1, k2⟩
 have gl_o1 := hB.size
 replace hB := hB.trans k2
 refine oga rfl rfl (a6 (bN hfin Tryz.results36 rfl ?_))
 exact ⟨o1.lo gl_o1, hB⟩
theorem lW (v : Value) (xs : List UInt8) (w : World) (hv : RdB w v xs) (hx : xs.length ≤ 140737488354000) : Rets Tryz.prog 38 [v] w (fun r w' => OwnB w' w.heap.size r (Sha.sum cS Kl Hl xs) ∧ Keep [] w w') := by
 have hB : Keep [] w w := Keep.refl _ _
 refine ac Tryz.func38 rfl (by decide) Tryz.ntmps38 rfl (fun fin _ hfin => a5 (aZ (oga rfl rfl (a6 (a5 (aZ (ad (a8 (vs := []) rfl (mX _)) rfl ?_)))))))
 rintro _ w1 ⟨l0, l1, u0, u1, rfl, a, b, c, d, k1⟩
 replace hB := hB.trans k1
 have hA : Keep [] w1 w1 := Keep.refl _ _
 refine ad (aj cx) rfl ?_
 rintro _ w2 ⟨b1, rfl, eb1, hb1, k2, z1⟩
 have gA2 : w1.heap.size ≤ b1 := by have := hA.size; omega
 have gA_b1 := hA.size
 have ge_b1 : w.heap.size ≤ b1 := by have := hB.size; omega
 replace hA := hA.trans k2
 replace hB := hB.trans k2
 clear eb1 z1
 refine ae (bB cx rfl rfl rfl (by simp only [List.forall_mem_cons]; exact ⟨rfl, rfl, rfl, a.one, b.one, c.one, d.one, fun v hv => by cases hv⟩) hb1 rfl) ?_
 rintro _ w3 ⟨hb2, k3, z2⟩
 replace hA := hA.new k3 (fun x hx => .inl (by rw [List.mem_singleton] at hx; omega))
 replace hB := hB.new k3 (nw ge_b1)
 clear z2
 replace hb2 : Bk w3 b1 _ [.int .i64 64, .int .i64 128, .int .i64 80, l0, l1, u0, u1] := hb2
 refine a6 (a5 (aZ (a7 (aa (cs' := [_, _, _, _, _, _, _]) dL cx rfl hb2 rfl rfl) rfl (ogm rfl rfl (ad (a8 (vs := [_, _]) rfl (qH _ _ _ _ _ xs _ (a.sD hA) (b.sD hA) (c.sD hA) (d.sD hA) (hv.sD hB) hx)) rfl ?_)))))
 rintro v1 w4 ⟨o1, k4⟩
 replace hA := hA.trans k4
 have gl_o1 := hB.size
 replace hB := hB.trans k4
 refine oga rfl rfl (a6 (bN hfin Tryz.results38 rfl ?_))
 exact ⟨o1.lo gl_o1, hB⟩
end Go.Proofs.YtllmbkmghmmhfaaGreatDoor.W
namespace Go.Proofs.YtllmbkmghmmhfaaGreatDoor.W
open Go Go.Eng Go.Byt
open Go.Fld Go.Ed
theorem d_bytes : fp (leI [163, 120, 89, 19, 202, 77, 235, 117, 171, 216, 65, 65, 77, 10, 112, 0, 152, 232, 121, 119, 121, 64, 199, 140, 115, 254, 111, 43, 238, 108, 3, 82]) = d := by decide +kernel
theorem me (w : World) : Rets Tryz.prog 61 [] w (fun v w' => ∃ h, v = .agg (iv .u64 5 h).toArray ∧ El h d ∧ Keep [] w w') := by
 have hB : Keep [] w w := Keep.refl _ _
 refine ac Tryz.func61 rfl (by decide) Tryz.ntmps61 rfl (fun fin _ hfin => a5 (aZ (ad (aj bD) rfl ?_)))
 rintro _ w1 ⟨b1, rfl, eb1, hb1, k1, z1⟩
 have ge_b1 : w.heap.size ≤ b1 := by have := hB.size; omega
 replace hB := hB.trans k1
 clear eb1 z1
 refine a6 (a5 (aZ (ad (eO (m := 32) (xs := [.const (.int .u8 (163)), .const (.int .u8 (120)), .const (.int .u8 (89)), .const (.int .u8 (19)), .const (.int .u8 (202)), .const (.int .u8 (77)), .const (.int .u8 (235)), .const (.int .u8 (117)), .const (.int .u8 (171)), .const (.int .u8 (216)), .const (.int .u8 (65)), .const (.int .u8 (65)), .const (.int .u8 (77)), .const (.int .u8 (10)), .const (.int .u8 (112)), .const (.int .u8 (0)), .const (.int .u8 (152)), .const (.int .u8 (232)), .const (.int .u8 (121)), .const (.int .u8 (119)), .const (.int .u8 (121)), .const (.int .u8 (64)), .const (.int .u8 (199)), .const (.int .u8 (140)), .const (.int .u8 (115)), .const (.int .u8 (254)), .const (.int .u8 (111)), .const (.int .u8 (43)), .const (.int .u8 (238)), .const (.int .u8 (108)), .const (.int .u8 (3)), .const (.int .u8 (82))]) (vs := [_, _, _, _, _, _, _, _, _, _, _, _, _, _, _, _, _, _, _, _, _, _, _, _, _, _, _, _, _, _, _, _]) aA cf (by decide) rfl rfl rfl (by simp only [List.forall_mem_cons]; exact ⟨rfl, rfl, rfl, rfl, rfl, rfl, rfl, rfl, rfl, rfl, rfl, rfl, rfl, rfl, rfl, rfl, rfl, rfl, rfl, rfl, rfl, rfl, rfl, rfl, rfl, rfl, rfl, rfl, rfl, rfl, rfl, rfl, fun v hv => by cases hv⟩) (by decide)) rfl ?_)))
 rintro v1 w2 ⟨o1, nn1, lb1, k2, z2⟩
 obtain ⟨hB, hb1⟩ := bL k2 hB hb1
 replace o1 : Own w2 _ _ 1 v1 32 (bv [163, 120, 89, 19, 202, 77, 235, 117, 171, 216, 65, 65, 77, 10, 112, 0, 152, 232, 121, 119, 121, 64, 199, 140, 115, 254, 111, 43, 238, 108, 3, 82]) := o1
 refine ad (a8 (vs := [_]) rfl (jL _ [163, 120, 89, 19, 202, 77, 235, 117, 171, 216, 65, 65, 77, 10, 112, 0, 152, 232, 121, 119, 121, 64, 199, 140, 115, 254, 111, 43, 238, 108, 3, 82] _ o1.rd rfl)) rfl ?_
 rintro _ w3 ⟨hh1, rfl, E1, k3⟩
 obtain ⟨hB, hb1⟩ := bL k3 hB hb1
 refine ogm rfl rfl (a7 (bJ (vs := [_, _]) rfl rfl) rfl (a7 (bJ (vs := [_, _]) rfl rfl) rfl (ad (aj bD) rfl ?_)))
 rintro _ w4 ⟨b2, rfl, eb2, hb2, k4, z3⟩
 have ge_b2 : w.heap.size ≤ b2 := by have := hB.size; omega
 have ne_b1_b2 : b1 ≠ b2 := by have := hb1.lt; omega
 obtain ⟨hB, hb1⟩ := bL k4 hB hb1
 clear eb2 z3
 refine ae (bB bD rfl rfl rfl ai hb2 rfl) ?_
 rintro _ w5 ⟨hb3, k5, z4⟩
 replace hb1 := hb1.keep k5 (nm ne_b1_b2)
 replace hB := hB.new k5 (nw ge_b2)
 clear z4
 replace hb3 := dg (g := hh1) hb3
 refine oga rfl rfl (a6 (a5 (aZ (a7 (aa (cs' := [_, _, _, _, _]) bz bD rfl hb3 rfl rfl) rfl (ae (bB bD rfl rfl rfl (by simp only [List.forall_mem_cons]; refine ⟨rfl, rfl, rfl, rfl, rfl, fun v hv => by cases hv⟩) hb1 rfl) ?_)))))
 rintro _ w6 ⟨hb4, k6, z5⟩
 replace hB := hB.new k6 (nw ge_b1)
 clear z5
 replace hb4 := dg (g := hh1) hb4
 refine a6 (bW hfin Tryz.results61 rfl (ak bz bD hb4 rfl)  ?_)
 exact ⟨hh1, rfl, d_bytes ▸ E1, hB⟩
theorem n9 (f : Nat → Int) : (iv .u64 5 f).toArray.extract 0 (0 + 5) = (iv .u64 5 f).toArray := by rw [List.extract_toArray]; rfl
theorem ll (f : Nat → Int) : (iv .u64 20 f).toArray.extract 0 (0 + 5) = (iv .u64 5 f).toArray ∧ (iv .u64 20 f).toArray.extract 5 (5 + 5) = (iv .u64 5 (fun i => f (5 + i))).toArray ∧ (iv .u64 20 f).toArray.extract 10 (10 + 5) = (iv .u64 5 (fun i => f (10 + i))).toArray ∧ (iv .u64 20 f).toArray.extract 15 (15 + 5) = (iv .u64 5 (fun i => f (15 + i))).toArray := by
  refine ⟨?_, ?_, ?_, ?_⟩ <;> (rw [List.extract_toArray]; rfl)
def pS (f g : Nat → Int) : Bool := (List.range 5).all fun i => f i == g i
theorem kR (w : World) (d : Nat) (f g : Nat → Int) : (Op.equalIn (d + 3) 51 (.agg (iv .u64 5 f).toArray) (.agg (iv .u64 5 g).toArray)).run Tryz.prog w = .ok (pS f g && true) w :=
 lV w aV (by kernel_rfl) (fq w rfl bl az (by rw [show (0 : Nat) + 5 = 5 from rfl]; exact (n9 f ▸ n9 g ▸ qG w (d := d) aB aM af f g)) (nk w (d + 2) (iv .u64 5 f).toArray (iv .u64 5 g).toArray))
theorem pt_eq (w : World) (f g : Nat → Int) : (Op.equalIn 10000 53 (.agg (iv .u64 20 f).toArray) (.agg (iv .u64 20 g).toArray)).run Tryz.prog w = .ok ((pS f g && true) && ((pS (fun i => f (5 + i)) (fun i => g (5 + i)) && true) && ((pS (fun i => f (10 + i)) (fun i => g (10 + i)) && true) && ((pS (fun i => f (15 + i)) (fun i => g (15 + i)) && true) && true)))) w := by
  obtain ⟨a1, a2, a3, a4⟩ := ll f
  obtain ⟨b1, b2, b3, b4⟩ := ll g
  refine lV w aI (by kernel_rfl) (fq w rfl bz bD ?_ (fq w rfl bz bD ?_ (fq w rfl bz bD ?_ (fq w rfl bz bD ?_ (nk w 9999 (iv .u64 20 f).toArray (iv .u64 20 g).toArray)))))
  · exact a1 ▸ b1 ▸ kR w 9996 _ _
  · exact a2 ▸ b2 ▸ kR w 9996 _ _
  · exact a3 ▸ b3 ▸ kR w 9996 _ _
  · exact a4 ▸ b4 ▸ kR w 9996 _ _
theorem rR {f : Nat → Int} {g : Nat → Int} {a : Fp} (h : pS f (fun _ => 0) = true) (hg : El g a) (h0 : g 0 = f 0 ∧ g 1 = f 1 ∧ g 2 = f 2 ∧ g 3 = f 3 ∧ g 4 = f 4) : a = 0 := by
  have e := fun i hi => eq_of_beq (List.all_eq_true.1 h i (List.mem_range.2 hi))
  obtain ⟨g0, g1, g2, g3, g4⟩ := h0
  obtain ⟨_, _, _, _, _, hv⟩ := hg
  rw [← hv]; unfold dv
  rw [g0, g1, g2, g3, g4, e 0 (by decide), e 1 (by decide), e 2 (by decide), e 3 (by decide), e 4 (by decide)]
  decide
theorem full_ne {p : Nat → Int} {X Y Z T : Fp} (h : PtEl p X Y Z T) (hz : Z ≠ 0) : ((pS p (fun _ => 0) && true) && ((pS (fun i => p (5 + i)) (fun _ => 0) && true) && ((pS (fun i => p (10 + i)) (fun _ => 0) && true) && ((pS (fun i => p (15 + i)) (fun _ => 0) && true) && true)))) = false := by
  cases he : pS (fun i => p (10 + i)) (fun _ => 0) with
  | true => exact absurd (rR he h.2.2.1 ⟨rfl, rfl, rfl, rfl, rfl⟩) hz
  | false => simp
theorem gu (p : Nat → Int) (X Y Z T : Fp) (hp : PtEl p X Y Z T) (hz : Z ≠ 0) (w : World) : Rets Tryz.prog 44 [.agg (iv .u64 20 p).toArray] w (fun v w' => ∃ r, v = .agg (iv .u64 20 r).toArray ∧ PtEl r X Y Z T ∧ Keep [] w w') := by
 have hB : Keep [] w w := Keep.refl _ _
 refine ac Tryz.func44 rfl (by decide) Tryz.ntmps44 rfl (fun fin _ hfin => a5 (aZ (ad (bZ (cs := [.int .u64 (p 0), .int .u64 (p 1), .int .u64 (p 2), .int .u64 (p 3), .int .u64 (p 4), .int .u64 (p 5), .int .u64 (p 6), .int .u64 (p 7), .int .u64 (p 8), .int .u64 (p 9), .int .u64 (p 10), .int .u64 (p 11), .int .u64 (p 12), .int .u64 (p 13), .int .u64 (p 14), .int .u64 (p 15), .int .u64 (p 16), .int .u64 (p 17), .int .u64 (p 18), .int .u64 (p 19)]) rfl rfl) rfl ?_)))
 rintro _ w1 ⟨b1, rfl, eb1, hb1, k1, z1⟩
 replace hB := hB.trans k1
 clear eb1 z1
 refine ad (aj bu) rfl ?_
 rintro _ w2 ⟨b2, rfl, eb2, hb2, k2, z2⟩
 have ge_b2 : w.heap.size ≤ b2 := by have := hB.size; omega
 obtain ⟨hB, hb1⟩ := bL k2 hB hb1
 clear eb2 z2
 refine a6 (a5 (a5 (aZ (a7 (aa (cs' := [_, _, _, _, _, _, _, _, _, _, _, _, _, _, _, _, _, _, _, _]) da bu rfl hb1 rfl rfl) rfl (a7 (dJ (idx := []) (xs := []) (vs := []) (css := []) (out := [_, _, _, _, _, _, _, _, _, _, _, _, _, _, _, _, _, _, _, _]) l9 bu rfl rfl trivial rfl rfl) rfl (a7 (rG (by kernel_rfl) rfl rfl (pt_eq _ p (fun _ => 0))) rfl (a6 (lH rfl (full_ne hp hz) (ag (a5 (aZ (a7 (aa (cs' := [_, _, _, _, _, _, _, _, _, _, _, _, _, _, _, _, _, _, _, _]) da bu rfl hb1 rfl rfl) rfl (ae (bB bu rfl rfl rfl (by simp only [List.forall_mem_cons]; refine ⟨rfl, rfl, rfl, rfl, rfl, rfl, rfl, rfl, rfl, rfl, rfl, rfl, rfl, rfl, rfl, rfl, rfl, rfl, rfl, rfl, fun v hv => by cases hv⟩) hb2 rfl) ?_)))))))))))))
 rintro _ w3 ⟨hb3, k3, z3⟩
 replace hB := hB.new k3 (nw ge_b2)
 clear z3
 replace hb3 := gK (g := p) hb3
 refine a6 (bW hfin Tryz.results44 rfl (ak da bu hb3 rfl)  ?_)
 exact ⟨p, rfl, ⟨hp.1, hp.2.1, hp.2.2.1, hp.2.2.2⟩, hB⟩
theorem pM (w : World) : Rets Tryz.prog 44 [.agg (iv .u64 20 (fun _ => 0)).toArray] w (fun v w' => ∃ r, v = .agg (iv .u64 20 r).toArray ∧ PtEl r 0 (fp 1) (fp 1) (0 * fp 1) ∧ Keep [] w w') := by
 have hB : Keep [] w w := Keep.refl _ _
 refine ac Tryz.func44 rfl (by decide) Tryz.ntmps44 rfl (fun fin _ hfin => a5 (aZ (ad (bZ (cs := [.int .u64 ((fun _ => 0) 0), .int .u64 ((fun _ => 0) 1), .int .u64 ((fun _ => 0) 2), .int .u64 ((fun _ => 0) 3), .int .u64 ((fun _ => 0) 4), .int .u64 ((fun _ => 0) 5), .int .u64 ((fun _ => 0) 6), .int .u64 ((fun _ => 0) 7), .int .u64 ((fun _ => 0) 8), .int .u64 ((fun _ => 0) 9), .int .u64 ((fun _ => 0) 10), .int .u64 ((fun _ => 0) 11), .int .u64 ((fun _ => 0) 12), .int .u64 ((fun _ => 0) 13), .int .u64 ((fun _ => 0) 14), .int .u64 ((fun _ => 0) 15), .int .u64 ((fun _ => 0) 16), .int .u64 ((fun _ => 0) 17), .int .u64 ((fun _ => 0) 18), .int .u64 ((fun _ => 0) 19)]) rfl rfl) rfl ?_)))
 rintro _ w1 ⟨b1, rfl, eb1, hb1, k1, z1⟩
 replace hB := hB.trans k1
 clear eb1 z1
 refine ad (aj bu) rfl ?_
 rintro _ w2 ⟨b2, rfl, eb2, hb2, k2, z2⟩
 have ge_b2 : w.heap.size ≤ b2 := by have := hB.size; omega
 obtain ⟨hB, hb1⟩ := bL k2 hB hb1
 clear eb2 z2
 refine a6 (a5 (a5 (aZ (a7 (aa (cs' := [_, _, _, _, _, _, _, _, _, _, _, _, _, _, _, _, _, _, _, _]) da bu rfl hb1 rfl rfl) rfl (a7 (dJ (idx := []) (xs := []) (vs := []) (css := []) (out := [_, _, _, _, _, _, _, _, _, _, _, _, _, _, _, _, _, _, _, _]) l9 bu rfl rfl trivial rfl rfl) rfl (a7 (rG (by kernel_rfl) rfl rfl (pt_eq _ (fun _ => 0) (fun _ => 0))) rfl (a6 (pm rfl (by decide) (a5 (aZ (a7 (dJ (idx := []) (xs := []) (vs := []) (css := []) (out := [_, _, _, _, _]) la bD rfl rfl trivial rfl rfl) rfl (ad (a8 (vs := [_]) rfl (iO _ (by decide) _)) rfl ?_))))))))))))
 rintro _ w3 ⟨hh1, rfl, E1, k3⟩
 obtain ⟨hB, hb2⟩ := bL k3 hB hb2
 refine ad (a8 (vs := [_, _]) rfl (g7 _ _ _ _ fY E1 _)) rfl ?_
 rintro _ w4 ⟨hh2, rfl, E2, k4⟩
 obtain ⟨hB, hb2⟩ := bL k4 hB hb2
 refine ae (bB bu rfl rfl rfl ai hb2 rfl) ?_
 rintro _ w5 ⟨hb3, k5, z3⟩
 replace hB := hB.new k5 (nw ge_b2)
 clear z3
 replace hb3 := gK (g := hh2) hb3
 refine a6 (bW hfin Tryz.results44 rfl (ak da bu hb3 rfl)  ?_)
 exact ⟨hh2, rfl, ⟨E2.1, E2.2.1, E2.2.2.1, E2.2.2.2⟩, hB⟩
theorem p9 (p q : Nat → Int) (X1 Y1 Z1 T1 X2 Y2 Z2 T2 : Fp) (hp : PtEl p X1 Y1 Z1 T1) (hz1 : Z1 ≠ 0) (hq : PtEl q X2 Y2 Z2 T2) (hz2 : Z2 ≠ 0) (w : World) : Rets Tryz.prog 29 [.agg (iv .u64 20 p).toArray, .agg (iv .u64 20 q).toArray] w (fun v w' => ∃ r, v = .agg (iv .u64 20 r).toArray ∧ PtEl r (((X1 + Y1) * (X2 + Y2) - X1 * X2 - Y1 * Y2) * (Z1 * Z2 - T1 * T2 * d)) ((Z1 * Z2 + T1 * T2 * d) * (Y1 * Y2 + X1 * X2)) ((Z1 * Z2 - T1 * T2 * d) * (Z1 * Z2 + T1 * T2 * d)) (((X1 + Y1) * (X2 + Y2) - X1 * X2 - Y1 * Y2) * (Y1 * Y2 + X1 * X2)) ∧ Keep [] w w') := by
 have hB : Keep [] w w := Keep.refl _ _
 refine ac Tryz.func29 rfl (by decide) Tryz.ntmps29 rfl (fun fin _ hfin => a5 (aZ (ad (bZ (cs := [.int .u64 (p 0), .int .u64 (p 1), .int .u64 (p 2), .int .u64 (p 3), .int .u64 (p 4), .int .u64 (p 5), .int .u64 (p 6), .int .u64 (p 7), .int .u64 (p 8), .int .u64 (p 9), .int .u64 (p 10), .int .u64 (p 11), .int .u64 (p 12), .int .u64 (p 13), .int .u64 (p 14), .int .u64 (p 15), .int .u64 (p 16), .int .u64 (p 17), .int .u64 (p 18), .int .u64 (p 19)]) rfl rfl) rfl ?_)))
 rintro _ w1 ⟨b1, rfl, eb1, hb1, k1, z1⟩
 replace hB := hB.trans k1
 clear eb1 z1
 refine ad (bZ (cs := [.int .u64 (q 0), .int .u64 (q 1), .int .u64 (q 2), .int .u64 (q 3), .int .u64 (q 4), .int .u64 (q 5), .int .u64 (q 6), .int .u64 (q 7), .int .u64 (q 8), .int .u64 (q 9), .int .u64 (q 10), .int .u64 (q 11), .int .u64 (q 12), .int .u64 (q 13), .int .u64 (q 14), .int .u64 (q 15), .int .u64 (q 16), .int .u64 (q 17), .int .u64 (q 18), .int .u64 (q 19)]) rfl rfl) rfl ?_
 rintro _ w2 ⟨b2, rfl, eb2, hb2, k2, z2⟩
 obtain ⟨hB, hb1⟩ := bL k2 hB hb1
 clear eb2 z2
 refine ad (aj bu) rfl ?_
 rintro _ w3 ⟨b3, rfl, eb3, hb3, k3, z3⟩
 have ge_b3 : w.heap.size ≤ b3 := by have := hB.size; omega
 obtain ⟨hB, hb1, hb2⟩ := cc k3 hB hb1 hb2
 clear eb3 z3
 refine a6 (a5 (bc 6 [0, 2, 1, 3, 4, 5] [1, 3, 4, 5] [] mixed [(2, _), (3, _), (4, _)] ⟨rfl, rfl, rfl, trivial⟩ (by decide +kernel) rfl (fun w4 k4 => ?_)))
 obtain ⟨hB, hb1, hb2, hb3⟩ := dE k4 hB hb1 hb2 hb3
 refine am 2 rfl rfl rfl rfl (fun W' kk => aa (cs' := [_, _, _, _, _, _, _, _, _, _, _, _, _, _, _, _, _, _, _, _]) da bu rfl (Bk.sD hb1 kk) rfl rfl) (am 3 rfl rfl rfl rfl (fun W' kk => aa (cs' := [_, _, _, _, _, _, _, _, _, _, _, _, _, _, _, _, _, _, _, _]) da bu rfl (Bk.sD hb2 kk) rfl rfl) (bq [(5, _)] rfl rfl ⟨rfl, trivial⟩ rfl (a8 (vs := [_]) rfl (gu _ _ _ _ _ ⟨hp.1, hp.2.1, hp.2.2.1, hp.2.2.2⟩ hz1 _)) ?_))
 rintro _ w5 ⟨hh1, rfl, E1, k5⟩
 refine ⟨k5, ?_⟩
 obtain ⟨hB, hb3⟩ := bL k5 hB hb3
 refine bq [(7, _)] rfl rfl ⟨rfl, trivial⟩ rfl (a8 (vs := [_]) rfl (gu _ _ _ _ _ ⟨hq.1, hq.2.1, hq.2.2.1, hq.2.2.2⟩ hz2 _)) ?_
 rintro _ w6 ⟨hh2, rfl, E2, k6⟩
 refine ⟨k6, ?_⟩
 obtain ⟨hB, hb3⟩ := bL k6 hB hb3
 refine bq [] rfl rfl trivial rfl (a8 (vs := []) rfl (me _)) ?_
 rintro _ w7 ⟨hh3, rfl, E3, k7⟩
 refine ⟨k7, ?_⟩
 obtain ⟨hB, hb3⟩ := bL k7 hB hb3
 refine bq [(6, _), (8, _), (9, _)] rfl rfl ⟨rfl, rfl, rfl, trivial⟩ rfl (a8 (vs := [_, _, _]) rfl (jk _ _ _ _ _ _ _ _ _ _ _ _ ⟨E1.1, E1.2.1, E1.2.2.1, E1.2.2.2⟩ ⟨E2.1, E2.2.1, E2.2.2.1, E2.2.2.2⟩ E3 _)) ?_
 rintro _ w8 ⟨hh4, rfl, E4, k8⟩
 refine ⟨k8, ?_⟩
 obtain ⟨hB, hb3⟩ := bL k8 hB hb3
 refine bx (ae (bB bu rfl rfl rfl ai hb3 rfl) ?_)
 rintro _ w9 ⟨hb4, k9, z4⟩
 replace hB := hB.new k9 (nw ge_b3)
 clear z4
 replace hb4 := gK (g := hh4) hb4
 refine a6 (bW hfin Tryz.results29 rfl (ak da bu hb4 rfl)  ?_)
 exact ⟨hh4, rfl, ⟨E4.1, E4.2.1, E4.2.2.1, E4.2.2.2⟩, hB⟩
theorem p7 (w : World) : Rets Tryz.prog 67 [] w (fun v w' => ∃ r, v = .agg (iv .u64 20 r).toArray ∧ PtEl r 0 (fp 1) (fp 1) (0 * fp 1) ∧ Keep [] w w') := by
 have hB : Keep [] w w := Keep.refl _ _
 refine ac Tryz.func67 rfl (by decide) Tryz.ntmps67 rfl (fun fin _ hfin => a5 (aZ (ad (aj bu) rfl ?_)))
 rintro _ w1 ⟨b1, rfl, eb1, hb1, k1, z1⟩
 have ge_b1 : w.heap.size ≤ b1 := by have := hB.size; omega
 replace hB := hB.trans k1
 clear eb1 z1
 refine a6 (a5 (aZ (a7 (dJ (idx := []) (xs := []) (vs := []) (css := []) (out := [_, _, _, _, _, _, _, _, _, _, _, _, _, _, _, _, _, _, _, _]) l9 bu rfl rfl trivial rfl rfl) rfl (ad (a8 (vs := [_]) rfl (pM _)) rfl ?_))))
 rintro _ w2 ⟨hh1, rfl, E1, k2⟩
 obtain ⟨hB, hb1⟩ := bL k2 hB hb1
 refine ae (bB bu rfl rfl rfl ai hb1 rfl) ?_
 rintro _ w3 ⟨hb2, k3, z2⟩
 replace hB := hB.new k3 (nw ge_b1)
 clear z2
 replace hb2 := gK (g := hh1) hb2
 refine a6 (bW hfin Tryz.results67 rfl (ak da bu hb2 rfl)  ?_)
 exact ⟨hh1, rfl, ⟨E1.1, E1.2.1, E1.2.2.1, E1.2.2.2⟩, hB⟩
theorem hD {xs : List UInt8} {i : Nat} {b : Int} (h : In b 0 255) : (bv xs).set i (.int .u8 b) = bv (xs.set i (UInt8.ofNat b.toNat)) := by
 unfold In at h
 have e : (((UInt8.ofNat b.toNat).toNat : Nat) : Int) = b := by simp; omega
 unfold bv
 rw [List.map_set, e]
def encB (x y : Fp) : List UInt8 := (fpB y).set 31 (UInt8.ofNat (bits .or .u8 (gb (fpB y) 31) (IntKind.u8.wrap (gb (fpB x) 0 * 128))).toNat)
theorem fv (p : Nat → Int) (X Y Z T : Fp) (hp : PtEl p X Y Z T) (hz : Z ≠ 0) (w : World) : Rets Tryz.prog 21 [.agg (iv .u64 20 p).toArray] w (fun v w' => OwnB w' w.heap.size v (encB (X * inv Z) (Y * inv Z)) ∧ Keep [] w w') := by
 have hB : Keep [] w w := Keep.refl _ _
 refine ac Tryz.func21 rfl (by decide) Tryz.ntmps21 rfl (fun fin _ hfin => a5 (aZ (ad (bZ (cs := [.int .u64 (p 0), .int .u64 (p 1), .int .u64 (p 2), .int .u64 (p 3), .int .u64 (p 4), .int .u64 (p 5), .int .u64 (p 6), .int .u64 (p 7), .int .u64 (p 8), .int .u64 (p 9), .int .u64 (p 10), .int .u64 (p 11), .int .u64 (p 12), .int .u64 (p 13), .int .u64 (p 14), .int .u64 (p 15), .int .u64 (p 16), .int .u64 (p 17), .int .u64 (p 18), .int .u64 (p 19)]) rfl rfl) rfl ?_)))
 rintro _ w1 ⟨b1, rfl, eb1, hb1, k1, z1⟩
 have ge_b1 : w.heap.size ≤ b1 := by have := hB.size; omega
 replace hB := hB.trans k1
 clear eb1 z1
 refine oga rfl rfl (a6 (a5 (aZ (a7 (aa (cs' := [_, _, _, _, _, _, _, _, _, _, _, _, _, _, _, _, _, _, _, _]) da bu rfl hb1 rfl rfl) rfl (ad (a8 (vs := [_]) rfl (gu _ _ _ _ _ ⟨hp.1, hp.2.1, hp.2.2.1, hp.2.2.2⟩ hz _)) rfl ?_)))))
 rintro _ w2 ⟨hh1, rfl, E1, k2⟩
 obtain ⟨hB, hb1⟩ := bL k2 hB hb1
 refine ae (bB bu rfl rfl rfl ai hb1 rfl) ?_
 rintro _ w3 ⟨hb2, k3, z2⟩
 replace hB := hB.new k3 (nw ge_b1)
 clear z2
 replace hb2 := gK (g := hh1) hb2
 refine a6 (a5 (aZ (a7 (dF aI rfl bD (by decide) rfl) rfl (a7 (aa (cs' := [_, _, _, _, _]) bz bD rfl hb2 rfl rfl) rfl (ad (a8 (vs := [_]) rfl (kS _ _ E1.2.2.1 _)) rfl ?_)))))
 rintro _ w4 ⟨hh2, rfl, E2, k4⟩
 obtain ⟨hB, hb2⟩ := bL k4 hB hb2
 refine ad (aj bD) rfl ?_
 rintro _ w5 ⟨b2, rfl, eb2, hb3, k5, z3⟩
 have ge_b2 : w.heap.size ≤ b2 := by have := hB.size; omega
 have ne_b1_b2 : b1 ≠ b2 := by have := hb2.lt; omega
 obtain ⟨hB, hb2⟩ := bL k5 hB hb2
 clear eb2 z3
 refine ae (bB bD rfl rfl rfl ai hb3 rfl) ?_
 rintro _ w6 ⟨hb4, k6, z4⟩
 replace hb2 := hb2.keep k6 (nm ne_b1_b2)
 replace hB := hB.new k6 (nw ge_b2)
 clear z4
 replace hb4 := dg (g := hh2) hb4
 refine a6 (a5 (aZ (a7 (dF aI rfl bD (by decide) rfl) rfl (a7 (aa (cs' := [_, _, _, _, _]) bz bD rfl hb2 rfl rfl) rfl (a7 (aa (cs' := [_, _, _, _, _]) bz bD rfl hb4 rfl rfl) rfl (ad (a8 (vs := [_, _]) rfl (br _ _ _ _ E1.2.1 E2 _)) rfl ?_))))))
 rintro _ w7 ⟨hh3, rfl, E3, k7⟩
 obtain ⟨hB, hb2, hb4⟩ := cc k7 hB hb2 hb4
 refine ad (a8 (vs := [_]) rfl (ep _ _ E3 _)) rfl ?_
 rintro v1 w8 ⟨o1, k8⟩
 have gl_o1 := hB.size
 obtain ⟨hB, hb2, hb4⟩ := cc k8 hB hb2 hb4
 have lnv1 := bG (Y * (inv Z))
 refine oga rfl rfl (a6 (a9 [(1, _), (3, _), (4, _)] ⟨rfl, rfl, rfl, trivial⟩ (a5 (bc 12 [0, 1, 2, 3, 4, 5, 6, 7, 8, 9, 10, 11] [6, 7] [] mixed [(4, _), (1, _), (3, _)] ⟨rfl, rfl, rfl, trivial⟩ (by decide +kernel) rfl (fun w9 k9 => ?_)))))
 obtain ⟨hb2, hb4⟩ := jp k9 hb2 hb4
 replace o1 := o1.sD k9
 replace hB := hB.trans k9
 refine bH 4 rfl rfl rfl rfl rfl (am 15 rfl rfl rfl rfl (fun W' kk => bk aA cf rfl (o1.sD kk).rd rfl (by omega)) (am 16 rfl rfl rfl rfl (fun W' kk => dI gg rfl (by first | exact Rd.sD ‹_› kk | exact Rd.sD (Own.rd ‹_›) kk | exact Rd.sD (Rd.sD ‹_› hB) kk | exact Rd.sD (Own.rd (Own.sD ‹_› hB)) kk) (by omega)) (am 1 rfl rfl rfl rfl (fun W' kk => dF aI rfl bD (by decide) rfl) (am 18 rfl rfl rfl rfl (fun W' kk => aa (cs' := [_, _, _, _, _]) bz bD rfl (Bk.sD hb2 kk) rfl rfl) (am 3 rfl rfl rfl rfl (fun W' kk => aa (cs' := [_, _, _, _, _]) bz bD rfl (Bk.sD hb4 kk) rfl rfl) (bq [(19, _), (20, _)] rfl rfl ⟨rfl, rfl, trivial⟩ rfl (a8 (vs := [_, _]) rfl (br _ _ _ _ E1.1 E2 _)) ?_))))))
 rintro _ w10 ⟨hh4, rfl, E4, k10⟩
 refine ⟨k10, ?_⟩
 replace o1 := o1.sD k10
 replace hB := hB.trans k10
 refine bq [(21, _)] rfl rfl ⟨rfl, trivial⟩ rfl (a8 (vs := [_]) rfl (ep _ _ E4 _)) ?_
 rintro v2 w11 ⟨o2, k11⟩
 refine ⟨k11, ?_⟩
 replace o1 := o1.sD k11
 replace hB := hB.trans k11
 have lnv2 := bG (X * (inv Z))
 refine am 22 rfl rfl rfl rfl (fun W' kk => bk aA cf rfl (o2.sD kk).rd rfl (by omega)) (am 23 rfl rfl rfl rfl (fun W' kk => dI gg rfl (by first | exact Rd.sD ‹_› kk | exact Rd.sD (Own.rd ‹_›) kk | exact Rd.sD (Rd.sD ‹_› hB) kk | exact Rd.sD (Own.rd (Own.sD ‹_› hB)) kk) (by omega)) (am 24 rfl rfl rfl rfl (fun W' kk => rD (m := 128) rfl rfl (by decide) (by decide)) (cE 17 25 rfl rfl rfl rfl rfl (fun W' kk => ee rfl rfl) (bx (a7 (bk aA cf rfl o1.rd rfl (by omega)) rfl (ae (ec (u := .int .u8 _) cf rfl rfl rfl o1 (by rw [bt, bG]; decide)) ?_))))))
 rintro _ w99 ⟨ow2, k99, z99⟩
 replace hB := hB.new k99 (fun x hx => .inl (Nat.le_trans gl_o1 (o1.blk x hx).1))
 rw [hD (fk (k := .u8) rfl rfl)] at ow2
 refine a6 (a9 [(4, _)] ⟨rfl, trivial⟩ (a5 (aZ (ogm rfl rfl (oga rfl rfl (a6 (bN hfin Tryz.results21 rfl ?_)))))))
 exact ⟨(by unfold OwnB encB; rw [List.length_set]; exact ow2.lo gl_o1), hB⟩
attribute [local irreducible] encB
theorem p8 (p q : Nat → Int) (X1 Y1 Z1 T1 X2 Y2 Z2 T2 : Fp) (hp : PtEl p X1 Y1 Z1 T1) (hz1 : Z1 ≠ 0) (hq : PtEl q X2 Y2 Z2 T2) (hz2 : Z2 ≠ 0) (w : World) : Rets Tryz.prog 28 [.agg (iv .u64 20 p).toArray, .agg (iv .u64 20 q).toArray] w (fun v w' => v = .bool (decide (encB (X1 * inv Z1) (Y1 * inv Z1) = encB (X2 * inv Z2) (Y2 * inv Z2))) ∧ Keep [] w w') := by
 have hB : Keep [] w w := Keep.refl _ _
 refine ac Tryz.func28 rfl (by decide) Tryz.ntmps28 rfl (fun fin _ hfin => a5 (aZ (ad (bZ (cs := [.int .u64 (p 0), .int .u64 (p 1), .int .u64 (p 2), .int .u64 (p 3), .int .u64 (p 4), .int .u64 (p 5), .int .u64 (p 6), .int .u64 (p 7), .int .u64 (p 8), .int .u64 (p 9), .int .u64 (p 10), .int .u64 (p 11), .int .u64 (p 12), .int .u64 (p 13), .int .u64 (p 14), .int .u64 (p 15), .int .u64 (p 16), .int .u64 (p 17), .int .u64 (p 18), .int .u64 (p 19)]) rfl rfl) rfl ?_)))
 rintro _ w1 ⟨b1, rfl, eb1, hb1, k1, z1⟩
 replace hB := hB.trans k1
 clear eb1 z1
 refine ad (bZ (cs := [.int .u64 (q 0), .int .u64 (q 1), .int .u64 (q 2), .int .u64 (q 3), .int .u64 (q 4), .int .u64 (q 5), .int .u64 (q 6), .int .u64 (q 7), .int .u64 (q 8), .int .u64 (q 9), .int .u64 (q 10), .int .u64 (q 11), .int .u64 (q 12), .int .u64 (q 13), .int .u64 (q 14), .int .u64 (q 15), .int .u64 (q 16), .int .u64 (q 17), .int .u64 (q 18), .int .u64 (q 19)]) rfl rfl) rfl ?_
 rintro _ w2 ⟨b2, rfl, eb2, hb2, k2, z2⟩
 obtain ⟨hB, hb1⟩ := bL k2 hB hb1
 clear eb2 z2
 refine oga rfl rfl (a6 (a5 (bc 5 [0, 2, 1, 3, 4] [1, 3, 4] [] mixed [(2, _), (3, _), (4, _)] ⟨rfl, rfl, rfl, trivial⟩ (by decide +kernel) rfl (fun w3 k3 => ?_))))
 obtain ⟨hB, hb1, hb2⟩ := cc k3 hB hb1 hb2
 refine am 2 rfl rfl rfl rfl (fun W' kk => aa (cs' := [_, _, _, _, _, _, _, _, _, _, _, _, _, _, _, _, _, _, _, _]) da bu rfl (Bk.sD hb1 kk) rfl rfl) (am 3 rfl rfl rfl rfl (fun W' kk => aa (cs' := [_, _, _, _, _, _, _, _, _, _, _, _, _, _, _, _, _, _, _, _]) da bu rfl (Bk.sD hb2 kk) rfl rfl) (bq [(5, _)] rfl rfl ⟨rfl, trivial⟩ rfl (a8 (vs := [_]) rfl (fv _ _ _ _ _ ⟨hp.1, hp.2.1, hp.2.2.1, hp.2.2.2⟩ hz1 _)) ?_))
 rintro v1 w4 ⟨o1, k4⟩
 refine ⟨k4, ?_⟩
 replace hB := hB.trans k4
 refine bq [(7, _)] rfl rfl ⟨rfl, trivial⟩ rfl (a8 (vs := [_]) rfl (fv _ _ _ _ _ ⟨hq.1, hq.2.1, hq.2.2.1, hq.2.2.2⟩ hz2 _)) ?_
 rintro v2 w5 ⟨o2, k5⟩
 refine ⟨k5, ?_⟩
 replace o1 := o1.sD k5
 replace hB := hB.trans k5
 refine bq [(6, _), (8, _)] rfl rfl ⟨rfl, rfl, trivial⟩ rfl (a8 (vs := [_, _]) rfl (jt _ _ (encB (X1 * inv Z1) (Y1 * inv Z1)) (encB (X2 * inv Z2) (Y2 * inv Z2)) _ o1.rd o2.rd)) ?_
 rintro _ w6 ⟨rfl, k6⟩
 refine ⟨k6, ?_⟩
 replace hB := hB.trans k6
 refine bx (oga rfl rfl (a6 (bN hfin Tryz.results28 rfl ?_)))
 exact ⟨rfl, hB⟩
end Go.Proofs.YtllmbkmghmmhfaaGreatDoor.W
namespace Go.Proofs.YtllmbkmghmmhfaaGreatDoor.W
open Go Go.Eng Go.Byt
open Go.Fld Go.Ed
def mxB (xs : List UInt8) : Nat → Int
 | 0 => gb xs 0
 | i + 1 => if gb xs ((i + 1 : Nat) : Int) > mxB xs i then gb xs ((i + 1 : Nat) : Int) else mxB xs i
theorem qf (xs : List UInt8) : ∀ i, 0 ≤ mxB xs i
 | 0 => (cK xs 0).1
 | i + 1 => by
   have := cK xs ((i + 1 : Nat) : Int)
   have := qf xs i
   unfold mxB; split <;> omega
theorem lf (xs : List UInt8) : ∀ i, mxB xs i = 0 ↔ ∀ j : Nat, j ≤ i → gb xs j = 0
 | 0 => ⟨fun h j hj => by obtain rfl : j = 0 := by omega
                          exact h, fun h => h 0 (Nat.le_refl _)⟩
 | i + 1 => by
   have ih := lf xs i
   have g := cK xs ((i + 1 : Nat) : Int)
   have hn := qf xs i
   constructor
   · intro h j hj
     unfold mxB at h
     by_cases hji : j ≤ i
     · exact ih.1 (by split at h <;> omega) j hji
     · obtain rfl : j = i + 1 := by omega
       split at h <;> omega
   · intro h
     unfold mxB
     rw [h (i + 1) (Nat.le_refl _), ih.2 (fun j hj => h j (by omega))]; rfl
theorem qe {xs : List UInt8} {m i : Int} (h1 : 1 ≤ i) (h : m = mxB xs (i - 1).toNat) : (if gb xs i > m then gb xs i else m) = mxB xs (i + 1 - 1).toNat := by
 subst h
 have e : (i + 1 - 1).toNat = (i - 1).toNat + 1 := by omega
 rw [e, mxB, show (((i - 1).toNat + 1 : Nat) : Int) = i by omega]
theorem ql (v : Value) (xs : List UInt8) (w : World) (hv : RdB w v xs) (hx : 0 < xs.length) : Rets Tryz.prog 63 [v] w (fun r w' => r = .int .u8 (mxB xs ((xs.length : Int) - 1).toNat) ∧ Keep [] w w') := by
 have hB : Keep [] w w := Keep.refl _ _
 have hle := hv.le
 refine ac Tryz.func63 rfl (by decide) Tryz.ntmps63 rfl (fun fin _ hfin => a5 (aZ (oga rfl rfl (a6 (a5 (a5 (aZ (ogm rfl rfl (a7 (cH aA rfl (by first | assumption | exact Own.rd ‹_› | exact Rd.sD ‹_› hB | exact Own.rd (Own.sD ‹_› hB))) rfl (a7 (bg rfl rfl) rfl (a6 (ck rfl (by omega) (ag (a5 (aZ (ogm rfl rfl (a7 (bk aA cf rfl (by first | assumption | exact Own.rd ‹_› | exact Rd.sD ‹_› hB | exact Own.rd (Own.sD ‹_› hB)) rfl (by omega)) rfl (a7 (dI gg rfl (by first | assumption | exact Own.rd ‹_› | exact Rd.sD ‹_› hB | exact Own.rd (Own.sD ‹_› hB)) (by omega)) rfl (oga rfl rfl (a6 (a5 (a5 (aZ (oga rfl rfl (a6 (ab (bT (Γ := Int × Int) (fun ⟨i, m⟩ => [(0, v), (3, .int .u8 m), (4, .int .i64 i)]) (fun ⟨i, m⟩ W => 1 ≤ i ∧ i ≤ xs.length ∧ m = mxB xs (i - 1).toNat ∧ Keep [] w W) (fun ⟨i, m⟩ => (xs.length - i).toNat) ⟨1, gb xs 0⟩ ⟨rfl, rfl, rfl, trivial⟩ (⟨by decide, by omega, rfl, hB⟩) ?_)))))))))))))))))))))))))))
 rintro ⟨i, m⟩ w1 ⟨hi0, hi1, hall, hB⟩
 refine a9 [(0, v), (3, .int .u8 m), (4, .int .i64 i)] ⟨rfl, rfl, rfl, trivial⟩ (a5 (a5 (aZ (ogm rfl rfl (ogm rfl rfl (a7 (cH aA rfl (by first | assumption | exact Own.rd ‹_› | exact Rd.sD ‹_› hB | exact Own.rd (Own.sD ‹_› hB))) rfl (a7 (bg rfl rfl) rfl (a6 (ba rfl (fun hc1 => ?_) (fun hc1 => ?_))))))))))
 ·
  refine ag (a5 (ab (aZ (ogm rfl rfl (ogm rfl rfl (ogm rfl rfl (a7 (bk aA cf rfl (by first | assumption | exact Own.rd ‹_› | exact Rd.sD ‹_› hB | exact Own.rd (Own.sD ‹_› hB)) rfl (by omega)) rfl (a7 (dI gg rfl (by first | assumption | exact Own.rd ‹_› | exact Rd.sD ‹_› hB | exact Own.rd (Own.sD ‹_› hB)) (by omega)) rfl (a7 (g_max rfl rfl) rfl (oga rfl rfl (a6 (bf (aZ (ogm rfl rfl (a7 (bo rfl rfl (by omega)) rfl (oga rfl rfl (a6 (bX (Γ := Int × Int) ⟨i + 1, _⟩ ⟨rfl, rfl, rfl, trivial⟩ (by (try dsimp only); omega) (⟨by omega, by omega, qe hi0 hall, hB⟩)))))))))))))))))))
 ·
  refine bF rfl (a5 (aZ (ogm rfl rfl (oga rfl rfl (a6 (bN hfin Tryz.results63 rfl ?_))))))
  exact ⟨by rw [hall, show i - 1 = (xs.length : Int) - 1 by omega], hB⟩
theorem pD (x y : Int) (hx : In x 0 18446744073709551615) (hy : In y 0 18446744073709551615) (w : World) : Rets Tryz.prog 107 [.int .u64 x, .int .u64 y] w (fun v w' => v = .tuple #[.int .u64 (x * y / 18446744073709551616), .int .u64 (x * y % 18446744073709551616)] ∧ w = w') := by
 refine ac Tryz.func107 rfl (by decide) Tryz.ntmps107 rfl (fun fin _ hfin => a5 (aZ (oga rfl rfl (oga rfl rfl (a6 (a5 (j4 rfl (ag (a5 (aZ (ogm rfl rfl (ogm rfl rfl (ad (a8 (vs := [_, _]) rfl (iI _ _ (In.wk hx rfl) (In.wk hy rfl) _)) rfl ?_)))))))))))))
 rintro _ _ ⟨rfl, rfl⟩
 refine ogm rfl rfl (an (e' := (x * y / 18446744073709551616)) (lo := 0) (hi := 18446744073709551614) (bJ (vs := [_, _]) rfl rfl) (rfl) (In.wk (bi (cN hx hy (by decide) (by decide)) (by decide)) rfl) rfl (fun z1 h1 r1 => an (e' := (x * y % 18446744073709551616)) (lo := 0) (hi := 18446744073709551615) (bJ (vs := [_, _]) rfl rfl) (rfl) (In.wk (bY _ (by decide)) rfl) rfl (fun z2 h2 r2 => oga rfl rfl (oga rfl rfl (a6 (a5 (aZ (ogm rfl rfl (ogm rfl rfl (oga rfl rfl (oga rfl rfl (a6 (dm hfin Tryz.results107 rfl rfl ?_)))))))))))))
 simp only [Eqn, In] at h1 r1 h2 r2
 exact ⟨by subst_vars; rfl, rfl⟩
theorem qh (w : World) : Rets Tryz.prog 107 [.int .u64 1, .int .u64 32] w (fun v w' => v = .tuple #[.int .u64 0, .int .u64 32] ∧ w = w') := pD 1 32 (by decide) (by decide) w
def repN (b : UInt8) (n : Nat) : List UInt8 := List.replicate n b ++ List.replicate (32 - n) 0
theorem l4 (b : UInt8) (n : Nat) (h : n ≤ 32) : (repN b n).length = 32 := by unfold repN; simp; omega
theorem qP {n : Nat} {f : Fr} {w : World} {ty : TypeId} {x y : Operand} {lo nn : Nat} {q : Value} {b : UInt8} (hx : f.ev x = some (cut q nn 32 1)) (hy : f.ev y = some (cut q 0 nn 1)) (ho : Own w lo 5 1 q 32 (bv (repN b nn))) (h1 : 1 ≤ nn) (h2 : nn < 32) :
   Does Tryz.prog n f w (.call { callee := .builtin .copy, args := #[x, y], argTypes := #[22, 22] }) ty
     (fun r w' => r = .int .i64 ((min nn (32 - nn) : Nat) : Int) ∧ Own w' lo 5 1 q 32 (bv (repN b (nn + min nn (32 - nn)))) ∧ Keep (vblk q) w w' ∧ w'.heap.size = w.heap.size) := by
 have hr : RdB w q (repN b nn) := by unfold RdB; rw [l4 _ _ (by omega)]; exact ho.rd
 have hc := hr.cutB (l := 0) (hi := nn) (by omega) (by rw [l4 _ _ (by omega)]; omega)
 have e1 : ((repN b nn).drop 0).take (nn - 0) = List.replicate nn b := by unfold repN; simp
 rw [e1] at hc
 refine (d_cpAt aA cf hx ho (by omega) hy hc (kt _) (s := min nn (32 - nn)) (by rw [List.length_replicate]) (by omega)).mono ?_
 rintro r w' ⟨rfl, o, k, z⟩
 refine ⟨rfl, ?_, k, z⟩
 have e2 : (bv (repN b nn)).take nn ++ (bv (List.replicate nn b)).take (min nn (32 - nn)) ++ (bv (repN b nn)).drop (nn + min nn (32 - nn)) = bv (repN b (nn + min nn (32 - nn))) := by
   rw [ks, ks, nv, ← e9, ← e9]
   congr 1
   unfold repN
   rw [List.take_left' (by simp), List.take_replicate, List.drop_append, List.length_replicate, List.drop_eq_nil_of_le (by simp), List.nil_append, List.drop_replicate, Nat.min_eq_left (show min nn (32 - nn) ≤ nn by omega), ← List.replicate_append_replicate, show nn + min nn (32 - nn) - nn = min nn (32 - nn) by omega, show 32 - nn - min nn (32 - nn) = 32 - (nn + min nn (32 - nn)) by omega]
 rw [e2] at o; exact o
theorem m8 (v : Value) (b : UInt8) (w : World) (hv : Rd w 1 v 1 (bv [b])) : Rets Tryz.prog 86 [v, .int .i64 32] w (fun r w' => Own w' w.heap.size 5 1 r 32 (bv (repN b 32)) ∧ Keep [] w w') := by
  have hB : Keep [] w w := Keep.refl _ _
  refine ac Tryz.func86 rfl (by decide) Tryz.ntmps86 rfl (fun fin _ hfin => a5 (aZ (oga rfl rfl (a6 (a5 (a5 (aZ (ogm rfl rfl ?_))))))))
  refine a7 (bg rfl rfl) rfl (a6 (ck rfl (by decide) (ag (a5 (aZ (ogm rfl rfl (a7 (cH aA rfl (by first | assumption | exact Own.rd (by assumption) | exact Rd.sD (by assumption) hB | exact Own.rd (Own.sD (by assumption) hB))) rfl (a7 (bC (j := 1) (ef (by rw [aK]; rfl) aR rfl) (by decide)) rfl ?_))))))))
  refine ogm rfl rfl (a7 (bC (j := 32) (ef (by rw [aK]; rfl) aR rfl) (by decide)) rfl (ad (a8 (vs := [_, _]) rfl (qh _)) rfl ?_))
  rintro _ _ ⟨rfl, rfl⟩
  refine ogm rfl rfl (a7 (bJ (vs := [_, _]) rfl rfl) rfl (a7 (bJ (vs := [_, _]) rfl rfl) rfl (oga rfl rfl (oga rfl rfl (a6 (a5 (a5 (aZ ?_))))))))
  refine ogm rfl rfl (a7 (mt rfl rfl) rfl (ogm rfl rfl (gY 23 false rfl (fun c1 hgc1 => de [(6, _)] (dT rfl rfl rfl hgc1) ⟨fS rfl, trivial⟩ (fun hw1 => bb rfl) rfl (de [(24, _)] (dT rfl rfl rfl hgc1) ⟨dU rfl, trivial⟩ (fun hw2 => mt rfl rfl) rfl (a7 (gO rfl rfl hgc1) rfl (a6 (lH rfl (by decide) ?_))))))))
  refine ag (a5 (aZ (ogm rfl rfl (a7 (bC (j := 32) (ef (by rw [aR]; rfl) aK rfl) (by decide)) rfl (ad (rZ aA cf rfl rfl (by omega) (by constructor <;> omega)) rfl ?_)))))
  rintro q w1 ⟨o1, _, _, k1, _⟩
  have o2 : Own w1 w.heap.size 5 1 q 32 (List.replicate 32 (.int .u8 0)) := o1.lo hB.size
  clear o1
  replace hv := hv.sD k1
  replace hB := hB.trans k1
  obtain ⟨g, c, cur, rfl, hg, _, hcap1, hcap2, _, _⟩ := o2.raw (by simp)
  refine oga rfl rfl (a6 (a5 (aZ (ogm rfl rfl (ogm rfl rfl (ad (d_cp aA cf rfl o2 rfl hv (kt _) rfl) rfl ?_))))))
  rintro _ w2 ⟨rfl, o3, k2, z2⟩
  replace hB := hB.new k2 (nw hg)
  clear hv
  refine oga rfl rfl (a6 (a5 (ab (bT (Γ := Nat) (fun i => [(7, .slice (some ⟨g, 0, none⟩) 32 c), (8, .int .i64 (i : Int))]) (fun i W => 1 ≤ i ∧ i ≤ 32 ∧ Own W w.heap.size 5 1 (.slice (some ⟨g, 0, none⟩) 32 c) 32 (bv (repN b i)) ∧ Keep [] w W) (fun i => 32 - i) 1 ⟨rfl, rfl, trivial⟩ (⟨by decide, by decide, o3, hB⟩) ?_))))
  rintro i w2 ⟨hi0, hi1, o4, hB⟩
  refine a9 [(7, .slice (some ⟨g, 0, none⟩) 32 c), (8, .int .i64 (i : Int))] ⟨rfl, rfl, trivial⟩ (a5 (a5 (aZ (ogm rfl rfl (ogm rfl rfl (a7 (cH aA rfl (by first | assumption | exact Own.rd (by assumption) | exact Rd.sD (by assumption) hB | exact Own.rd (Own.sD (by assumption) hB))) rfl (a7 (bg rfl rfl) rfl (a6 ?_))))))))
  refine ba rfl (fun hc1 => ?_) (fun hc1 => ?_)
  · -- yes
    refine ag (ab (bO 8 [0, 1, 2, 3, 4, 5, 6, 7] [7] [g] [] mixed [(7, _), (8, _)] ⟨rfl, rfl, trivial⟩ (by decide +kernel) (by decide) (by decide) ?_ (fun x hx => (List.mem_singleton.1 hx) ▸ (o4.blk g (by simp [vblk])).2) rfl (fun w5 k5 => ?_)))
    · intro q hq; cases hq
    replace o4 := o4.sD k5
    replace hB := hB.trans k5
    refine cA 8 rfl rfl rfl rfl rfl (cA 7 rfl rfl rfl rfl rfl (cA 8 rfl rfl rfl rfl rfl (cm 39 40 rfl rfl rfl rfl rfl (fun W' kk => g_slv aA cf rfl hcap2 hcap1 (.inr ⟨_, _, rfl, rfl⟩) (.inl ⟨rfl, rfl⟩) (by omega)) (cA 7 rfl rfl rfl rfl rfl (cA 8 rfl rfl rfl rfl rfl (cm 42 43 rfl rfl rfl rfl rfl (fun W' kk => g_slv aA cf rfl hcap2 hcap1 (.inl ⟨rfl, rfl⟩) (.inr ⟨_, _, rfl, rfl⟩) (by omega)) (bm [(41, _), (44, _)] rfl rfl ⟨rfl, rfl, trivial⟩ rfl (fun w6 k6 => ?_))))))))
    refine (qP rfl rfl (o4.sD k6) hi0 (by omega)).mono ?_
    rintro _ w6' ⟨rfl, o5, k6', z6⟩
    replace hB := (hB.trans k6).new k6' (nw hg)
    refine ⟨k6', nox, ?_⟩
    clear o4
    refine cC (fun w7 k7 => ?_)
    replace o5 := o5.sD k7
    replace hB := hB.trans k7
    refine bP (a7 (bo rfl rfl (by omega)) rfl (oga rfl rfl (a6 (bf (bX (Γ := Nat) (i + min i (32 - i)) ⟨rfl, rfl, trivial⟩ (by (try dsimp only); omega) (⟨by omega, by omega, o5, hB⟩))))))
  · -- no
    refine bF rfl (a5 (aZ (ogm rfl rfl (oga rfl rfl (a6 (bN hfin Tryz.results86 rfl ?_))))))
    obtain rfl : i = 32 := by omega
    exact ⟨o4, hB⟩
attribute [local irreducible] encB
def decLow (xs : List UInt8) : List UInt8 := xs.set 31 (UInt8.ofNat (bits .andNot .u8 (gb xs 31) 128).toNat)
def decY (xs : List UInt8) : Fp := fp (leI (decLow xs))
def decOdd (xs : List UInt8) : Bool := decide (gb xs 31 / 128 = 1)
def decU (y : Fp) : Fp := y * y - fp 1
def decV (y : Fp) : Fp := d * (y * y) + fp 1
def decE (xs : List UInt8) : Int := if xs.length ≠ 32 then 1 else if fpB (decY xs) ≠ decLow xs then 30 else if (!rootOk (decU (decY xs)) (decV (decY xs)) || (decOdd xs && decide (rootF (decU (decY xs)) (decV (decY xs)) = 0))) = true then 30 else 0
def decX (xs : List UInt8) : Fp := if decOdd xs = true then 0 - rootF (decU (decY xs)) (decV (decY xs)) else rootF (decU (decY xs)) (decV (decY xs))
theorem jV (xs : List UInt8) (hx : xs.length = 32) : (decLow xs).length = 32 := by unfold decLow; rw [List.length_set, hx]
theorem fX (a : Fp) : fp (leI (fpB a)) = a := by
 have h := a.isLt
 have hp : (P : Int) < 256 ^ 32 := by decide +kernel
 unfold fpB
 rw [i9 32 (a.val : Int) (by omega) (by omega), fp_self]
theorem lu (a : Fp) : (∀ j : Nat, j ≤ 31 → gb (fpB a) j = 0) ↔ a = 0 := by
 constructor
 · intro h
   refine ni (List.ext_getElem (by rw [bG, bG]) (fun j h1 h2 => ?_))
   have g := h j (by rw [bG] at h1; omega)
   have g0 : gb (fpB (0 : Fp)) j = 0 := by
     have hj : j < 32 := by rwa [bG] at h1
     have : ∀ j : Nat, j < 32 → gb (fpB (0 : Fp)) (j : Int) = 0 := by decide +kernel
     exact this j hj
   unfold gb at g g0
   rw [Int.toNat_natCast, List.getD_eq_getElem?_getD, List.getElem?_eq_getElem h1] at g
   rw [Int.toNat_natCast, List.getD_eq_getElem?_getD, List.getElem?_eq_getElem h2] at g0
   simp only [Option.getD_some] at g g0
   exact UInt8.toNat_inj.1 (by omega)
 · rintro rfl
   have : ∀ j : Nat, j < 32 → gb (fpB (0 : Fp)) (j : Int) = 0 := by decide +kernel
   intro j hj; exact this j (by omega)
theorem mx_fpB (a : Fp) : decide (mxB (fpB a) (((fpB a).length : Int) - 1).toNat = 0) = decide (a = 0) := by
 rw [bG]
 exact decide_eq_decide.2 ((lf _ _).trans (lu a))
theorem rW {xs : List UInt8} (hx : xs.length = 32) (h : ¬ fpB (fp (leI (decLow xs))) = decLow xs) : decE xs = 30 := by
 unfold decE decY; rw [if_neg (by omega), if_pos h]
theorem rX {xs : List UInt8} {z : Int} {c : Bool} {U V : Fp} (hz : Eqn z (gb xs 31 / 128)) (hU : U = decU (decY xs)) (hV : V = decV (decY xs))
   (h : (!rootOk (fp (leI (fpB U))) (fp (leI (fpB V))) || decide (z = 1) && decide (mxB (fpB (rootF (fp (leI (fpB U))) (fp (leI (fpB V))))) (((fpB (rootF (fp (leI (fpB U))) (fp (leI (fpB V))))).length : Int) - 1).toNat = 0)) = c) :
   (!rootOk (decU (decY xs)) (decV (decY xs)) || (decOdd xs && decide (rootF (decU (decY xs)) (decV (decY xs)) = 0))) = c := by
 unfold Eqn at hz
 subst hz hU hV
 rw [mx_fpB, fX, fX] at h
 exact h
theorem rV {xs : List UInt8} {z : Int} (hx : xs.length = 32) (h1 : ¬¬ fpB (fp (leI (decLow xs))) = decLow xs) (h : (!rootOk (decU (decY xs)) (decV (decY xs)) || (decOdd xs && decide (rootF (decU (decY xs)) (decV (decY xs)) = 0))) = true) : decE xs = 30 := by
 have h1 : ¬ fpB (decY xs) ≠ decLow xs := h1
 unfold decE; rw [if_neg (by omega), if_neg h1, if_pos h]
theorem ko {xs : List UInt8} {z : Int} (hx : xs.length = 32) (h1 : ¬¬ fpB (fp (leI (decLow xs))) = decLow xs) (h : (!rootOk (decU (decY xs)) (decV (decY xs)) || (decOdd xs && decide (rootF (decU (decY xs)) (decV (decY xs)) = 0))) = false) : decE xs = 0 := by
 have h1 : ¬ fpB (decY xs) ≠ decLow xs := h1
 unfold decE; rw [if_neg (by omega), if_neg h1, if_neg (by rw [h]; decide)]
theorem dec_xT {xs : List UInt8} {z : Int} {U V : Fp} (hz : Eqn z (gb xs 31 / 128)) (hU : U = decU (decY xs)) (hV : V = decV (decY xs)) (h : z = 1) : decX xs = 0 - fp (leI (fpB (rootF (fp (leI (fpB U))) (fp (leI (fpB V)))))) := by
 unfold Eqn at hz
 subst hU hV
 rw [fX, fX, fX]
 unfold decX
 rw [if_pos (by unfold decOdd; rw [← hz]; exact decide_eq_true h)]
theorem dec_xF {xs : List UInt8} {z : Int} {U V : Fp} (hz : Eqn z (gb xs 31 / 128)) (hU : U = decU (decY xs)) (hV : V = decV (decY xs)) (h : ¬ z = 1) : decX xs = fp (leI (fpB (rootF (fp (leI (fpB U))) (fp (leI (fpB V)))))) := by
 unfold Eqn at hz
 subst hU hV
 rw [fX, fX, fX]
 unfold decX
 rw [if_neg (by unfold decOdd; rw [← hz, decide_eq_false h]; decide)]
theorem j2 (v : Value) (xs : List UInt8) (w : World) (hv : RdB w v xs) (hx : xs.length = 32) : Rets Tryz.prog 25 [v] w (fun v w' => ∃ p, v = .tuple #[.agg (iv .u64 20 p).toArray, .int .i64 (decE xs)] ∧ (decE xs = 0 → PtEl p (decX xs) (decY xs) (fp 1) (decX xs * decY xs)) ∧ (decE xs ≠ 0 → p = fun _ => 0) ∧ Keep [] w w') := by
 have hB : Keep [] w w := Keep.refl _ _
 refine ac Tryz.func25 rfl (by decide) Tryz.ntmps25 rfl (fun fin _ hfin => a5 (aZ (ad (aj bu) rfl ?_)))
 rintro _ w1 ⟨b1, rfl, eb1, hb1, k1, z1⟩
 have ge_b1 : w.heap.size ≤ b1 := by have := hB.size; omega
 replace hB := hB.trans k1
 clear eb1 z1
 refine oga rfl rfl (a6 (a5 (a5 (aZ (ogm rfl rfl (a7 (cH aA rfl (by first | assumption | exact Own.rd ‹_› | exact Rd.sD ‹_› hB | exact Own.rd (Own.sD ‹_› hB))) rfl (a7 (eU rfl rfl) rfl (a6 (ck rfl (by omega) (ag (a5 (aZ (ogm rfl rfl (a7 (bk aA cf rfl (by first | assumption | exact Own.rd ‹_› | exact Rd.sD ‹_› hB | exact Own.rd (Own.sD ‹_› hB)) rfl (by omega)) rfl (a7 (dI gg rfl (by first | assumption | exact Own.rd ‹_› | exact Rd.sD ‹_› hB | exact Own.rd (Own.sD ‹_› hB)) (by omega)) rfl (an (e' := (gb xs (31)) / 128) (lo := 0) (hi := 1) (cG (m := 128) rfl rfl (by decide) rfl) (rfl) (In.wk (bi (cK xs (31)) (by decide)) rfl) rfl (fun z2 h1 r1 => a7 (fW rfl rfl) rfl (oga rfl rfl (a6 (a5 (aZ (ogm rfl rfl (ad (a8 (vs := [_]) rfl (ju _ xs _ (by first | assumption | exact Own.rd ‹_› | exact Rd.sD ‹_› hB | exact Own.rd (Own.sD ‹_› hB)) (by omega))) rfl ?_)))))))))))))))))))))))
 rintro v1 w2 ⟨o1, k2, _⟩
 have gl_o1 := hB.size
 have sb_b1_o1 := fun x hx => (show x ≠ b1 from by have h1 := (o1.blk x hx).1; have h2 := hb1.lt; omega)
 obtain ⟨hB, hb1⟩ := bL k2 hB hb1
 refine oga rfl rfl (a6 (a9 [(2, _), (4, _), (5, _)] ⟨rfl, rfl, rfl, trivial⟩ (a5 (aZ (ogm rfl rfl (a7 (bk aA cf rfl o1.rd rfl (by omega)) rfl (a7 (dI gg rfl (by first | assumption | exact Own.rd ‹_› | exact Rd.sD ‹_› hB | exact Own.rd (Own.sD ‹_› hB)) (by omega)) rfl (a7 (jK rfl rfl) rfl (a7 (bk aA cf rfl o1.rd rfl (by omega)) rfl (ae (ec (u := .int .u8 _) cf rfl rfl rfl o1 (by rw [bt, hx]; decide)) ?_))))))))))
 rintro _ w99 ⟨ow2, k99, z99⟩
 replace hB := hB.new k99 (fun x hx => .inl (Nat.le_trans gl_o1 (o1.blk x hx).1))
 replace ow2 : OwnB w99 w.heap.size v1 (decLow xs) := by unfold OwnB decLow; rw [List.length_set, ← hD (ku (k := .u8) rfl _ _ _)]; exact ow2.lo gl_o1
 replace hb1 := hb1.keep k99 (fun hm => sb_b1_o1 _ hm rfl)
 refine a6 (a5 (aZ (ogm rfl rfl (ad (a8 (vs := [_]) rfl (jL _ (decLow xs) _ ow2.rd (jV xs hx))) rfl ?_))))
 rintro _ w3 ⟨hh1, rfl, E1, k3⟩
 replace hb1 := hb1.sD k3
 replace ow2 := ow2.sD k3
 replace hB := hB.trans k3
 refine ogm rfl rfl (a7 (bJ (vs := [_, _]) rfl rfl) rfl (a7 (bJ (vs := [_, _]) rfl rfl) rfl (ad (aj bD) rfl ?_)))
 rintro _ w4 ⟨b2, rfl, eb2, hb2, k4, z3⟩
 have ge_b2 : w.heap.size ≤ b2 := by have := hB.size; omega
 have ne_b1_b2 : b1 ≠ b2 := by have := hb1.lt; omega
 have sb_b2_ow2 := fun x hx => (show x ≠ b2 from by have := (ow2.blk x hx).2; omega)
 replace hb1 := hb1.sD k4
 replace ow2 := ow2.sD k4
 replace hB := hB.trans k4
 clear eb2 z3
 refine ae (bB bD rfl rfl rfl ai hb2 rfl) ?_
 rintro _ w5 ⟨hb3, k5, z4⟩
 replace hb1 := hb1.keep k5 (nm ne_b1_b2)
 replace ow2 := ow2.keep k5 (fun x hx hm => sb_b2_ow2 x hx (List.mem_singleton.1 hm))
 replace hB := hB.new k5 (nw ge_b2)
 clear z4
 replace hb3 := dg (g := hh1) hb3
 refine oga rfl rfl (a6 (a9 [(2, _), (4, _), (5, _), (6, _)] ⟨rfl, rfl, rfl, rfl, trivial⟩ (a5 (a5 (aZ (a7 (aa (cs' := [_, _, _, _, _]) bz bD rfl hb3 rfl rfl) rfl (ad (a8 (vs := [_]) rfl (ep _ _ E1 _)) rfl ?_)))))))
 rintro v2 w6 ⟨o2, k6⟩
 replace hb1 := hb1.sD k6
 replace ow2 := ow2.sD k6
 obtain ⟨hB, hb3⟩ := bL k6 hB hb3
 refine ogm rfl rfl (ad (a8 (vs := [_, _]) rfl (jt _ _ (fpB (fp (leI (decLow xs)))) (decLow xs) _ o2.rd ow2.rd)) rfl ?_)
 rintro _ w7 ⟨rfl, k7⟩
 replace hb1 := hb1.sD k7
 replace ow2 := ow2.sD k7
 obtain ⟨hB, hb3⟩ := bL k7 hB hb3
 refine a7 (fF rfl) rfl (a6 (ba rfl (fun hc1 => ?_) (fun hc1 => ?_)))
 ·
  refine a5 (aZ (a7 (dJ (idx := []) (xs := []) (vs := []) (css := []) (out := [_, _, _, _, _, _, _, _, _, _, _, _, _, _, _, _, _, _, _, _]) l9 bu rfl rfl trivial rfl rfl) rfl (ae (bB bu rfl rfl rfl (by simp only [List.forall_mem_cons]; refine ⟨rfl, rfl, rfl, rfl, rfl, rfl, rfl, rfl, rfl, rfl, rfl, rfl, rfl, rfl, rfl, rfl, rfl, rfl, rfl, rfl, fun v hv => by cases hv⟩) hb1 rfl) ?_)))
  rintro _ w8 ⟨hb4, k8, z5⟩
  replace ow2 := ow2.keep k8 (fun x hx hm => sb_b1_o1 x hx (List.mem_singleton.1 hm))
  replace hb3 := hb3.keep k8 (nm (Ne.symm ne_b1_b2))
  replace hB := hB.new k8 (nw ge_b1)
  clear z5
  replace hb4 : Bk w8 b1 _ [.int .u64 0, .int .u64 0, .int .u64 0, .int .u64 0, .int .u64 0, .int .u64 0, .int .u64 0, .int .u64 0, .int .u64 0, .int .u64 0, .int .u64 0, .int .u64 0, .int .u64 0, .int .u64 0, .int .u64 0, .int .u64 0, .int .u64 0, .int .u64 0, .int .u64 0, .int .u64 0] := hb4
  refine oga rfl rfl (a6 (cQ hfin Tryz.results25 rfl (ak da bu hb4 rfl) rfl ?_))
  have he := rW hx hc1
  exact ⟨fun _ => 0, by rw [he]; rfl, fun h => by rw [he] at h; exact absurd h (by decide), fun _ => rfl, hB⟩
 ·
  refine ag (a5 (aZ (ad (a8 (vs := [_]) rfl (iO _ (by decide) _)) rfl ?_)))
  rintro _ w9 ⟨hh2, rfl, E2, k9⟩
  replace hb1 := hb1.sD k9
  replace ow2 := ow2.sD k9
  obtain ⟨hB, hb3⟩ := bL k9 hB hb3
  refine ad (aj bD) rfl ?_
  rintro _ w10 ⟨b3, rfl, eb3, hb5, k10, z6⟩
  have ge_b3 : w.heap.size ≤ b3 := by have := hB.size; omega
  have ne_b1_b3 : b1 ≠ b3 := by have := hb1.lt; omega
  have sb_b3_ow2 := fun x hx => (show x ≠ b3 from by have := (ow2.blk x hx).2; omega)
  have ne_b2_b3 : b2 ≠ b3 := by have := hb3.lt; omega
  replace hb1 := hb1.sD k10
  replace ow2 := ow2.sD k10
  obtain ⟨hB, hb3⟩ := bL k10 hB hb3
  clear eb3 z6
  refine ae (bB bD rfl rfl rfl ai hb5 rfl) ?_
  rintro _ w11 ⟨hb6, k11, z7⟩
  replace hb1 := hb1.keep k11 (nm ne_b1_b3)
  replace ow2 := ow2.keep k11 (fun x hx hm => sb_b3_ow2 x hx (List.mem_singleton.1 hm))
  replace hb3 := hb3.keep k11 (nm ne_b2_b3)
  replace hB := hB.new k11 (nw ge_b3)
  clear z7
  replace hb6 := dg (g := hh2) hb6
  refine a6 (a5 (aZ (a7 (aa (cs' := [_, _, _, _, _]) bz bD rfl hb3 rfl rfl) rfl (a7 (aa (cs' := [_, _, _, _, _]) bz bD rfl hb3 rfl rfl) rfl (ad (a8 (vs := [_, _]) rfl (br _ _ _ _ E1 E1 _)) rfl ?_)))))
  rintro _ w12 ⟨hh3, rfl, E3, k12⟩
  replace hb1 := hb1.sD k12
  replace ow2 := ow2.sD k12
  obtain ⟨hB, hb3, hb6⟩ := cc k12 hB hb3 hb6
  refine ad (aj bD) rfl ?_
  rintro _ w13 ⟨b4, rfl, eb4, hb7, k13, z8⟩
  have ge_b4 : w.heap.size ≤ b4 := by have := hB.size; omega
  have ne_b1_b4 : b1 ≠ b4 := by have := hb1.lt; omega
  have sb_b4_ow2 := fun x hx => (show x ≠ b4 from by have := (ow2.blk x hx).2; omega)
  have ne_b2_b4 : b2 ≠ b4 := by have := hb3.lt; omega
  have ne_b3_b4 : b3 ≠ b4 := by have := hb6.lt; omega
  replace hb1 := hb1.sD k13
  replace ow2 := ow2.sD k13
  obtain ⟨hB, hb3, hb6⟩ := cc k13 hB hb3 hb6
  clear eb4 z8
  refine ae (bB bD rfl rfl rfl ai hb7 rfl) ?_
  rintro _ w14 ⟨hb8, k14, z9⟩
  replace hb1 := hb1.keep k14 (nm ne_b1_b4)
  replace ow2 := ow2.keep k14 (fun x hx hm => sb_b4_ow2 x hx (List.mem_singleton.1 hm))
  replace hb3 := hb3.keep k14 (nm ne_b2_b4)
  replace hb6 := hb6.keep k14 (nm ne_b3_b4)
  replace hB := hB.new k14 (nw ge_b4)
  clear z9
  replace hb8 := dg (g := hh3) hb8
  refine a6 (a9 [(2, _), (4, _), (6, _), (8, _), (9, _)] ⟨rfl, rfl, rfl, rfl, rfl, trivial⟩ (a5 (bc 17 [0, 1, 5, 7, 2, 3, 4, 6, 8, 9, 10, 11, 12, 13, 14, 15, 16] [2, 3, 4, 6, 8, 9, 10] [] mixed [(9, _), (8, _), (2, _), (4, _), (6, _)] ⟨rfl, rfl, rfl, rfl, rfl, trivial⟩ (by decide +kernel) rfl (fun w15 k15 => ?_))))
  replace hb1 := hb1.sD k15
  replace ow2 := ow2.sD k15
  obtain ⟨hB, hb3, hb6, hb8⟩ := dE k15 hB hb3 hb6 hb8
  refine am 9 rfl rfl rfl rfl (fun W' kk => aa (cs' := [_, _, _, _, _]) bz bD rfl (Bk.sD hb8 kk) rfl rfl) (am 8 rfl rfl rfl rfl (fun W' kk => aa (cs' := [_, _, _, _, _]) bz bD rfl (Bk.sD hb6 kk) rfl rfl) (am 9 rfl rfl rfl rfl (fun W' kk => aa (cs' := [_, _, _, _, _]) bz bD rfl (Bk.sD hb8 kk) rfl rfl) (am 8 rfl rfl rfl rfl (fun W' kk => aa (cs' := [_, _, _, _, _]) bz bD rfl (Bk.sD hb6 kk) rfl rfl) (bq [(46, _), (47, _)] rfl rfl ⟨rfl, rfl, trivial⟩ rfl (a8 (vs := [_, _]) rfl (eF _ _ _ _ E3 E2 _)) ?_))))
  rintro _ w16 ⟨hh4, rfl, E4, k16⟩
  refine ⟨k16, ?_⟩
  replace hb1 := hb1.sD k16
  replace ow2 := ow2.sD k16
  obtain ⟨hB, hb3⟩ := bL k16 hB hb3
  refine bq [(48, _)] rfl rfl ⟨rfl, trivial⟩ rfl (a8 (vs := [_]) rfl (ep _ _ E4 _)) ?_
  rintro v3 w17 ⟨o3, k17⟩
  refine ⟨k17, ?_⟩
  replace hb1 := hb1.sD k17
  replace ow2 := ow2.sD k17
  obtain ⟨hB, hb3⟩ := bL k17 hB hb3
  refine bq [] rfl rfl trivial rfl (a8 (vs := []) rfl (me _)) ?_
  rintro _ w18 ⟨hh5, rfl, E5, k18⟩
  refine ⟨k18, ?_⟩
  replace hb1 := hb1.sD k18
  replace ow2 := ow2.sD k18
  replace hb3 := hb3.sD k18
  replace o3 := o3.sD k18
  replace hB := hB.trans k18
  refine bq [(50, _), (51, _)] rfl rfl ⟨rfl, rfl, trivial⟩ rfl (a8 (vs := [_, _]) rfl (br _ _ _ _ E5 E3 _)) ?_
  rintro _ w19 ⟨hh6, rfl, E6, k19⟩
  refine ⟨k19, ?_⟩
  replace hb1 := hb1.sD k19
  replace ow2 := ow2.sD k19
  replace hb3 := hb3.sD k19
  replace o3 := o3.sD k19
  replace hB := hB.trans k19
  refine bq [(52, _), (53, _)] rfl rfl ⟨rfl, rfl, trivial⟩ rfl (a8 (vs := [_, _]) rfl (dn _ _ _ _ E6 E2 _)) ?_
  rintro _ w20 ⟨hh7, rfl, E7, k20⟩
  refine ⟨k20, ?_⟩
  replace hb1 := hb1.sD k20
  replace ow2 := ow2.sD k20
  replace hb3 := hb3.sD k20
  replace o3 := o3.sD k20
  replace hB := hB.trans k20
  refine bq [(54, _)] rfl rfl ⟨rfl, trivial⟩ rfl (a8 (vs := [_]) rfl (ep _ _ E7 _)) ?_
  rintro v4 w21 ⟨o4, k21⟩
  refine ⟨k21, ?_⟩
  replace hb1 := hb1.sD k21
  replace ow2 := ow2.sD k21
  replace hb3 := hb3.sD k21
  replace o3 := o3.sD k21
  replace hB := hB.trans k21
  refine bq [(49, _), (55, _)] rfl rfl ⟨rfl, rfl, trivial⟩ rfl (a8 (vs := [_, _]) rfl (sA _ _ (fpB (((fp (leI (decLow xs))) * (fp (leI (decLow xs)))) - (fp 1))) (fpB (((d) * ((fp (leI (decLow xs))) * (fp (leI (decLow xs))))) + (fp 1))) _ o3.rd (bG _) o4.rd (bG _))) ?_
  rintro _ w22 ⟨v5, rfl, o5, k22⟩
  refine ⟨k22, ?_⟩
  have sb_b1_o5 := fun x hx => (show x ≠ b1 from by have h1 := (o5.blk x hx).1; have h2 := hb1.lt; omega)
  replace hb1 := hb1.sD k22
  replace ow2 := ow2.sD k22
  obtain ⟨hB, hb3⟩ := bL k22 hB hb3
  refine bH 56 rfl rfl rfl rfl rfl (am 45 rfl rfl rfl rfl (fun W' kk => bJ (vs := [_, _, _]) rfl rfl) (am 45 rfl rfl rfl rfl (fun W' kk => bJ (vs := [_, _, _]) rfl rfl) (am 45 rfl rfl rfl rfl (fun W' kk => bJ (vs := [_, _, _]) rfl rfl) (am 57 rfl rfl rfl rfl (fun W' kk => fM rfl) (am 58 rfl rfl rfl rfl (fun W' kk => fM rfl) (bx (oga rfl rfl (a6 (a9 [(2, _), (4, _), (6, _), (0, _), (10, _)] ⟨rfl, rfl, rfl, rfl, rfl, trivial⟩ (a5 (a5 (aZ (ogm rfl rfl (a7 (lv rfl) rfl ?_))))))))))))))
  refine ogm rfl rfl (gY 62 false rfl (fun c1 hgc1 => de [(4, _)] (dT rfl rfl rfl hgc1) ⟨fS rfl, trivial⟩ (fun hw1 => bb rfl) rfl (de [(63, _)] (dT rfl rfl rfl hgc1) ⟨dU rfl, trivial⟩ (fun hw2 => bb rfl) rfl (ow_grp2 64 true rfl (fun c2 hgc2 => de [(0, _)] (gL rfl rfl rfl hgc2) ⟨fS rfl, trivial⟩ (fun hw3 => bb rfl) rfl (q9 [(65, _)] (gL rfl rfl rfl hgc2) ⟨dU rfl, trivial⟩ (fun hw4 => a8 (vs := [_]) rfl (ql _ (fpB (rootF (fp (leI (fpB (((fp (leI (decLow xs))) * (fp (leI (decLow xs)))) - (fp 1))))) (fp (leI (fpB (((d) * ((fp (leI (decLow xs))) * (fp (leI (decLow xs))))) + (fp 1))))))) _ o5.rd (by rw [bG]; decide))) rfl ?_))))))
  rintro w24 k24
  replace hb1 := hb1.sD k24
  replace ow2 := ow2.sD k24
  replace hb3 := hb3.sD k24
  replace o5 := o5.sD k24
  replace hB := hB.trans k24
  refine de [(66, _)] (gL rfl rfl rfl hgc2) ⟨dU rfl, trivial⟩ (fun hw5 => fW rfl rfl) rfl (ow_pand (dT rfl rfl rfl hgc1) (dU rfl) rfl hgc2 rfl (a7 (gO rfl rfl hgc1) rfl (a6 (a9 [(2, _), (4, _), (6, _), (0, _), (69, _)] ⟨rfl, rfl, rfl, rfl, rfl, trivial⟩ (dV rfl (fun hc2 => ?_) (fun hc2 => ?_))))))
  ·
   have hd1 := hc2
   try (simp only [Bool.and_eq_true, Bool.or_eq_true, decide_eq_true_eq, Bool.and_eq_false_iff, Bool.or_eq_false_iff, decide_eq_false_iff_not, Bool.not_eq_true', Bool.not_eq_false', Bool.not_eq_true, Bool.not_eq_false, ne_eq, Decidable.not_not] at hd1)
   refine a5 (aZ (a7 (dJ (idx := []) (xs := []) (vs := []) (css := []) (out := [_, _, _, _, _, _, _, _, _, _, _, _, _, _, _, _, _, _, _, _]) l9 bu rfl rfl trivial rfl rfl) rfl (ae (bB bu rfl rfl rfl (by simp only [List.forall_mem_cons]; refine ⟨rfl, rfl, rfl, rfl, rfl, rfl, rfl, rfl, rfl, rfl, rfl, rfl, rfl, rfl, rfl, rfl, rfl, rfl, rfl, rfl, fun v hv => by cases hv⟩) hb1 rfl) ?_)))
   rintro _ w25 ⟨hb9, k25, z10⟩
   replace ow2 := ow2.keep k25 (fun x hx hm => sb_b1_o1 x hx (List.mem_singleton.1 hm))
   replace hb3 := hb3.keep k25 (nm (Ne.symm ne_b1_b2))
   replace o5 := o5.keep k25 (fun x hx hm => sb_b1_o5 x hx (List.mem_singleton.1 hm))
   replace hB := hB.new k25 (nw ge_b1)
   clear z10
   replace hb9 : Bk w25 b1 _ [.int .u64 0, .int .u64 0, .int .u64 0, .int .u64 0, .int .u64 0, .int .u64 0, .int .u64 0, .int .u64 0, .int .u64 0, .int .u64 0, .int .u64 0, .int .u64 0, .int .u64 0, .int .u64 0, .int .u64 0, .int .u64 0, .int .u64 0, .int .u64 0, .int .u64 0, .int .u64 0] := hb9
   refine oga rfl rfl (a6 (cQ hfin Tryz.results25 rfl (ak da bu hb9 rfl) rfl ?_))
   have he := rV (z := 0) hx hc1 (rX h1 rfl rfl hc2)
   exact ⟨fun _ => 0, by rw [he]; rfl, fun h => by rw [he] at h; exact absurd h (by decide), fun _ => rfl, hB⟩
  ·
   have hd2 := hc2
   try (simp only [Bool.and_eq_true, Bool.or_eq_true, decide_eq_true_eq, Bool.and_eq_false_iff, Bool.or_eq_false_iff, decide_eq_false_iff_not, Bool.not_eq_true', Bool.not_eq_false', Bool.not_eq_true, Bool.not_eq_false, ne_eq, Decidable.not_not] at hd2)
   refine ag (a5 (aZ (ogm rfl rfl (ad (a8 (vs := [_]) rfl (jL _ (fpB (rootF (fp (leI (fpB (((fp (leI (decLow xs))) * (fp (leI (decLow xs)))) - (fp 1))))) (fp (leI (fpB (((d) * ((fp (leI (decLow xs))) * (fp (leI (decLow xs))))) + (fp 1))))))) _ o5.rd (bG _))) rfl ?_))))
   rintro _ w26 ⟨hh8, rfl, E8, k26⟩
   replace hb1 := hb1.sD k26
   replace ow2 := ow2.sD k26
   obtain ⟨hB, hb3⟩ := bL k26 hB hb3
   refine ogm rfl rfl (a7 (bJ (vs := [_, _]) rfl rfl) rfl (a7 (bJ (vs := [_, _]) rfl rfl) rfl (ad (aj bD) rfl ?_)))
   rintro _ w27 ⟨b5, rfl, eb5, hb10, k27, z11⟩
   have ge_b5 : w.heap.size ≤ b5 := by have := hB.size; omega
   have ne_b1_b5 : b1 ≠ b5 := by have := hb1.lt; omega
   have sb_b5_ow2 := fun x hx => (show x ≠ b5 from by have := (ow2.blk x hx).2; omega)
   have ne_b2_b5 : b2 ≠ b5 := by have := hb3.lt; omega
   replace hb1 := hb1.sD k27
   replace ow2 := ow2.sD k27
   obtain ⟨hB, hb3⟩ := bL k27 hB hb3
   clear eb5 z11
   refine ae (bB bD rfl rfl rfl ai hb10 rfl) ?_
   rintro _ w28 ⟨hb11, k28, z12⟩
   replace hb1 := hb1.keep k28 (nm ne_b1_b5)
   replace ow2 := ow2.keep k28 (fun x hx hm => sb_b5_ow2 x hx (List.mem_singleton.1 hm))
   replace hb3 := hb3.keep k28 (nm ne_b2_b5)
   replace hB := hB.new k28 (nw ge_b5)
   clear z12
   replace hb11 := dg (g := hh8) hb11
   refine oga rfl rfl (a6 (a5 (a5 (aZ (ogm rfl rfl (a6 (ba rfl (fun hc3 => ?_) (fun hc3 => ?_))))))))
   ·
    refine aZ (a7 (dJ (idx := []) (xs := []) (vs := []) (css := []) (out := [_, _, _, _, _]) la bD rfl rfl trivial rfl rfl) rfl (a7 (aa (cs' := [_, _, _, _, _]) bz bD rfl hb11 rfl rfl) rfl (ad (a8 (vs := [_, _]) rfl (eF _ _ _ _ fY E8 _)) rfl ?_)))
    rintro _ w29 ⟨hh9, rfl, E9, k29⟩
    replace hb1 := hb1.sD k29
    replace ow2 := ow2.sD k29
    obtain ⟨hB, hb3, hb11⟩ := cc k29 hB hb3 hb11
    refine ae (bB bD rfl rfl rfl ai hb11 rfl) ?_
    rintro _ w30 ⟨hb12, k30, z13⟩
    replace hb1 := hb1.keep k30 (nm ne_b1_b5)
    replace ow2 := ow2.keep k30 (fun x hx hm => sb_b5_ow2 x hx (List.mem_singleton.1 hm))
    replace hb3 := hb3.keep k30 (nm ne_b2_b5)
    replace hB := hB.new k30 (nw ge_b5)
    clear z13
    replace hb12 := dg (g := hh9) hb12
    refine a6 (a9 [(2, _), (6, _), (12, _)] ⟨rfl, rfl, rfl, trivial⟩ (a5 (aZ (a7 (aa (cs' := [_, _, _, _, _]) bz bD rfl hb12 rfl rfl) rfl (a7 (aa (cs' := [_, _, _, _, _]) bz bD rfl hb3 rfl rfl) rfl (ad (a8 (vs := [_, _]) rfl (g7 _ _ _ _ E9 E1 _)) rfl ?_))))))
    rintro _ w31 ⟨hh10, rfl, E10, k31⟩
    replace hb1 := hb1.sD k31
    replace ow2 := ow2.sD k31
    obtain ⟨hB, hb3⟩ := bL k31 hB hb3
    refine ae (bB bu rfl rfl rfl ai hb1 rfl) ?_
    rintro _ w32 ⟨hb13, k32, z14⟩
    replace ow2 := ow2.keep k32 (fun x hx hm => sb_b1_o1 x hx (List.mem_singleton.1 hm))
    replace hb3 := hb3.keep k32 (nm (Ne.symm ne_b1_b2))
    replace hB := hB.new k32 (nw ge_b1)
    clear z14
    replace hb13 := gK (g := hh10) hb13
    refine oga rfl rfl (a6 (cQ hfin Tryz.results25 rfl (ak da bu hb13 rfl) rfl ?_))
    have he := ko (z := 0) hx hc1 (rX h1 rfl rfl hc2)
    exact ⟨hh10, by rw [he]; rfl, fun _ => (by rw [dec_xT h1 rfl rfl hc3]; exact E10), fun h => absurd he h, hB⟩
   ·
    refine ag (a5 (aZ (a7 (aa (cs' := [_, _, _, _, _]) bz bD rfl hb11 rfl rfl) rfl (a7 (aa (cs' := [_, _, _, _, _]) bz bD rfl hb3 rfl rfl) rfl (ad (a8 (vs := [_, _]) rfl (g7 _ _ _ _ E8 E1 _)) rfl ?_)))))
    rintro _ w33 ⟨hh11, rfl, E11, k33⟩
    replace hb1 := hb1.sD k33
    replace ow2 := ow2.sD k33
    replace hB := hB.trans k33
    refine ae (bB bu rfl rfl rfl ai hb1 rfl) ?_
    rintro _ w34 ⟨hb14, k34, z15⟩
    replace ow2 := ow2.keep k34 (fun x hx hm => sb_b1_o1 x hx (List.mem_singleton.1 hm))
    replace hB := hB.new k34 (nw ge_b1)
    clear z15
    replace hb14 := gK (g := hh11) hb14
    refine oga rfl rfl (a6 (a9 [(2, _), (3, _)] ⟨rfl, rfl, trivial⟩ (cQ hfin Tryz.results25 rfl (ak da bu hb14 rfl) rfl ?_)))
    have he := ko (z := 0) hx hc1 (rX h1 rfl rfl hc2)
    exact ⟨hh11, by rw [he]; rfl, fun _ => (by rw [dec_xF h1 rfl rfl hc3]; exact E11), fun h => absurd he h, hB⟩
end Go.Proofs.YtllmbkmghmmhfaaGreatDoor.W
namespace Go.Proofs.YtllmbkmghmmhfaaGreatDoor.W
open Go Go.Eng Go.Byt
open Go.Fld Go.Ed
def baseB : List UInt8 := [88, 102, 102, 102, 102, 102, 102, 102, 102, 102, 102, 102, 102, 102, 102, 102, 102, 102, 102, 102, 102, 102, 102, 102, 102, 102, 102, 102, 102, 102, 102, 102]
def basePt : Pt := (⟨15112221349535400772501151409588531511454012693041857206046113283949847762202, by decide⟩, ⟨46316835694926478169428394003475163141307993866256225615783033603165251855960, by decide⟩)
theorem dt : OnP basePt := by unfold OnP On; decide +kernel
theorem mF : decLow baseB = baseB := by decide +kernel
theorem kw : decY baseB = basePt.2 := by unfold decY; rw [mF]; decide +kernel
theorem p6 : (bv (repN 102 32)).set 0 (.int .u8 88) = bv baseB := by
 rw [hD (by decide)]; congr 1
def bU : Fp := (⟨37053468555941182535542715202780130513046395093004980492626426882532201484767, by decide⟩ : Fp)
def bV : Fp := (⟨35320460721920060721965471946471712506633951349663716574434581141966314745466, by decide⟩ : Fp)
def bI : Fp := (⟨36615873626505047815401509688526422966742341385236691817538452001808239043262, by decide⟩ : Fp)
def bQ : Fp := (⟨26187595835145689230469591415084376402084551887632582719101735842039498021991, by decide⟩ : Fp)
def bR : Fp := (⟨42783823269122696939284341094755422415180979639778424813682678720006717057747, by decide⟩ : Fp)
def bS : Fp := (⟨42783823269122696939284341094755422415180979639778424813682678720006717057747, by decide⟩ : Fp)
theorem rq : decU basePt.2 = bU := by decide +kernel
theorem rp : decV basePt.2 = bV := by decide +kernel
theorem rr : bU * inv bV = bQ := by rw [fV (show bV * bI = 1 by decide +kernel)]; decide +kernel
theorem base_r0 : en bQ = bR := Fin.ext (by unfold en; rw [kj _ _ (by decide)]; decide +kernel)
theorem nx : cu bQ = bS := by
 unfold cu
 rw [base_r0]
 rw [if_pos (by decide +kernel)]; decide +kernel
theorem ny : rootOk bU bV = true := by unfold rootOk; rw [rr, nx]; decide +kernel
theorem base_F : rootF bU bV = basePt.1 := by unfold rootF; rw [ny, rr, nx]; decide +kernel
theorem ky : decE baseB = 0 := by
 have hl : ¬ baseB.length ≠ 32 := by decide
 have ho : decOdd baseB = false := by decide +kernel
 unfold decE
 rw [if_neg hl, kw, mF, if_neg (by decide +kernel), rq, rp, ny, ho]; rfl
theorem ro : decX baseB = basePt.1 := by
 have ho : decOdd baseB = false := by decide +kernel
 unfold decX
 rw [ho, kw, rq, rp, base_F]; rfl
theorem kz (v : Value) (w : World) (hv : RdB w v baseB) : Rets Tryz.prog 25 [v] w (fun v w' => ∃ p, v = .tuple #[.agg (iv .u64 20 p).toArray, .int .i64 0] ∧ PtR p basePt ∧ Keep [] w w') :=
  (j2 v baseB w hv (by decide)).mono fun r w' ⟨p, e, h, _, k⟩ => ⟨p, by rw [e, ky], by have := h ky; rw [ro, kw] at this; exact it this, k⟩
theorem pa (w : World) : Rets Tryz.prog 43 [] w (fun v w' => ∃ p, v = .agg (iv .u64 20 p).toArray ∧ PtR p basePt ∧ Keep [] w w') := by
 have hB : Keep [] w w := Keep.refl _ _
 refine ac Tryz.func43 rfl (by decide) Tryz.ntmps43 rfl (fun fin _ hfin => a5 (aZ (ad (aj bu) rfl ?_)))
 rintro _ w1 ⟨b1, rfl, eb1, hb1, k1, z1⟩
 have ge_b1 : w.heap.size ≤ b1 := by have := hB.size; omega
 replace hB := hB.trans k1
 clear eb1 z1
 refine a6 (a5 (aZ (ad (eO (m := 1) (xs := [.const (.int .u8 (102))]) (vs := [_]) aA cf (by decide) rfl rfl rfl (by first | (simp; done) | (intro v hv; rw [List.mem_singleton] at hv; subst hv; rfl)) (by decide)) rfl ?_)))
 rintro v1 w2 ⟨o1, nn1, lb1, k2, z2⟩
 obtain ⟨hB, hb1⟩ := bL k2 hB hb1
 replace o1 : Own w2 _ _ 1 v1 1 (bv [102]) := o1
 refine ad (a8 (vs := [_, _]) rfl (m8 _ 102 _ (o1).rd)) rfl ?_
 rintro v2 w3 ⟨o2, k3⟩
 have gl_o2 := hB.size
 have sb_b1_o2 := fun x hx => (show x ≠ b1 from by have h1 := (o2.blk x hx).1; have h2 := hb1.lt; omega)
 obtain ⟨hB, hb1⟩ := bL k3 hB hb1
 refine oga rfl rfl (a6 (a5 (aZ (ogm rfl rfl (a7 (bk aA cf rfl o2.rd rfl (by omega)) rfl (ae (ec (u := .int .u8 88) cf rfl rfl rfl o2 (by decide)) ?_))))))
 rintro _ w99 ⟨ow2, k99, z99⟩
 replace hB := hB.new k99 (fun x hx => .inl (Nat.le_trans gl_o2 (o2.blk x hx).1))
 replace ow2 : OwnB w99 w.heap.size v2 baseB := by have e := ow2.lo gl_o2; rw [show (0 : Int).toNat * 1 = 0 from rfl, p6] at e; exact e
 replace hb1 := hb1.keep k99 (fun hm => sb_b1_o2 _ hm rfl)
 refine a6 (a5 (aZ (ogm rfl rfl (ad (a8 (vs := [_]) rfl (kz _ _ ow2.rd)) rfl ?_))))
 rintro _ w4 ⟨hh1, rfl, E1, k4⟩
 replace hb1 := hb1.sD k4
 replace ow2 := ow2.sD k4
 replace hB := hB.trans k4
 refine ogm rfl rfl (a7 (bJ (vs := [_, _]) rfl rfl) rfl (a7 (bJ (vs := [_, _]) rfl rfl) rfl (ad (aj bu) rfl ?_)))
 rintro _ w5 ⟨b2, rfl, eb2, hb2, k5, z3⟩
 have ge_b2 : w.heap.size ≤ b2 := by have := hB.size; omega
 have ne_b1_b2 : b1 ≠ b2 := by have := hb1.lt; omega
 have sb_b2_ow2 := fun x hx => (show x ≠ b2 from by have := (ow2.blk x hx).2; omega)
 replace hb1 := hb1.sD k5
 replace ow2 := ow2.sD k5
 replace hB := hB.trans k5
 clear eb2 z3
 refine ae (bB bu rfl rfl rfl ai hb2 rfl) ?_
 rintro _ w6 ⟨hb3, k6, z4⟩
 replace hb1 := hb1.keep k6 (nm ne_b1_b2)
 replace ow2 := ow2.keep k6 (fun x hx hm => sb_b2_ow2 x hx (List.mem_singleton.1 hm))
 replace hB := hB.new k6 (nw ge_b2)
 clear z4
 replace hb3 := gK (g := hh1) hb3
 refine oga rfl rfl (a6 (a9 [(0, _), (2, _)] ⟨rfl, rfl, trivial⟩ (a5 (aZ (a7 (aa (cs' := [_, _, _, _, _, _, _, _, _, _, _, _, _, _, _, _, _, _, _, _]) da bu rfl hb3 rfl rfl) rfl (ae (bB bu rfl rfl rfl (by simp only [List.forall_mem_cons]; refine ⟨rfl, rfl, rfl, rfl, rfl, rfl, rfl, rfl, rfl, rfl, rfl, rfl, rfl, rfl, rfl, rfl, rfl, rfl, rfl, rfl, fun v hv => by cases hv⟩) hb1 rfl) ?_))))))
 rintro _ w7 ⟨hb4, k7, z5⟩
 replace ow2 := ow2.keep k7 (fun x hx hm => sb_b1_o2 x hx (List.mem_singleton.1 hm))
 replace hB := hB.new k7 (nw ge_b1)
 clear z5
 replace hb4 := gK (g := hh1) hb4
 refine a6 (bW hfin Tryz.results43 rfl (ak da bu hb4 rfl)  ?_)
 exact ⟨hh1, rfl, E1, hB⟩
attribute [local irreducible] encB
theorem fullR {p : Nat → Int} {a : Pt} (hp : PtR p a) (w : World) : Rets Tryz.prog 44 [.agg (iv .u64 20 p).toArray] w (fun v w' => ∃ r, v = .agg (iv .u64 20 r).toArray ∧ PtR r a ∧ Keep [] w w') := by
  obtain ⟨Z, hz, h⟩ := hp
  exact (gu p _ _ _ _ h hz w).mono fun v w' ⟨r, e, h', k⟩ => ⟨r, e, ⟨Z, hz, h'⟩, k⟩
theorem plusR {p q f : Nat → Int} {a b : Pt} (hp : PtR p a) (hq : PtR q b) (oa : OnP a) (ob : OnP b) (hf : El f d) (w : World) : Rets Tryz.prog 68 [.agg (iv .u64 20 p).toArray, .agg (iv .u64 20 q).toArray, .agg (iv .u64 5 f).toArray] w (fun v w' => ∃ r, v = .agg (iv .u64 20 r).toArray ∧ PtR r (padd a b) ∧ Keep [] w w') := by
  obtain ⟨Z1, h1, hp⟩ := hp
  obtain ⟨Z2, h2, hq⟩ := hq
  exact (jk p q f _ _ _ _ _ _ _ _ _ hp hq hf w).mono fun v w' ⟨r, e, h', k⟩ => ⟨r, e, l7 oa ob h1 h2 h', k⟩
theorem doubleR {p : Nat → Int} {a : Pt} (hp : PtR p a) (oa : OnP a) (w : World) : Rets Tryz.prog 69 [.agg (iv .u64 20 p).toArray] w (fun v w' => ∃ r, v = .agg (iv .u64 20 r).toArray ∧ PtR r (padd a a) ∧ Keep [] w w') := by
  obtain ⟨Z, hz, hp⟩ := hp
  exact (lc p _ _ _ _ hp w).mono fun v w' ⟨r, e, h', k⟩ => ⟨r, e, md oa hz h', k⟩
theorem PplusR {p q : Nat → Int} {a b : Pt} (hp : PtR p a) (hq : PtR q b) (oa : OnP a) (ob : OnP b) (w : World) : Rets Tryz.prog 29 [.agg (iv .u64 20 p).toArray, .agg (iv .u64 20 q).toArray] w (fun v w' => ∃ r, v = .agg (iv .u64 20 r).toArray ∧ PtR r (padd a b) ∧ Keep [] w w') := by
  obtain ⟨Z1, h1, hp⟩ := hp
  obtain ⟨Z2, h2, hq⟩ := hq
  exact (p9 p q _ _ _ _ _ _ _ _ hp h1 hq h2 w).mono fun v w' ⟨r, e, h', k⟩ => ⟨r, e, l7 oa ob h1 h2 h', k⟩
theorem PzeroR (w : World) : Rets Tryz.prog 67 [] w (fun v w' => ∃ r, v = .agg (iv .u64 20 r).toArray ∧ PtR r zero ∧ Keep [] w w') :=
  (p7 w).mono fun v w' ⟨r, e, h', k⟩ => ⟨r, e, qS h', k⟩
theorem eN {x Z : Fp} (hz : Z ≠ 0) : x * Z * inv Z = x := by
 have := cd hz
 generalize inv Z = i at *
 grind -lia -linarith
theorem PencodeR {p : Nat → Int} {a : Pt} (hp : PtR p a) (w : World) : Rets Tryz.prog 21 [.agg (iv .u64 20 p).toArray] w (fun v w' => OwnB w' w.heap.size v (encB a.1 a.2) ∧ Keep [] w w') := by
  obtain ⟨Z, hz, hp⟩ := hp
  have h := fv p _ _ _ _ hp hz w
  rw [eN hz, eN hz] at h
  exact h
theorem PsameR {p q : Nat → Int} {a b : Pt} (hp : PtR p a) (hq : PtR q b) (w : World) : Rets Tryz.prog 28 [.agg (iv .u64 20 p).toArray, .agg (iv .u64 20 q).toArray] w (fun v w' => v = .bool (decide (encB a.1 a.2 = encB b.1 b.2)) ∧ Keep [] w w') := by
  obtain ⟨Z1, h1, hp⟩ := hp
  obtain ⟨Z2, h2, hq⟩ := hq
  have h := p8 p q _ _ _ _ _ _ _ _ hp h1 hq h2 w
  rw [eN h1, eN h1, eN h2, eN h2] at h
  exact h
end Go.Proofs.YtllmbkmghmmhfaaGreatDoor.W
namespace Go.Proofs.YtllmbkmghmmhfaaGreatDoor.W
open Go Go.Eng Go.Byt
open Go.Fld Go.Ed
theorem jz (p : Nat → Int) (a : Pt) (v : Value) (xs : List UInt8) (hp : PtR p a) (ha : OnP a) (w : World) (hv : RdB w v xs) (hx : xs.length = 32) : Rets Tryz.prog 27 [.agg (iv .u64 20 p).toArray, v] w (fun r w' => ∃ q, r = .tuple #[.agg (iv .u64 20 q).toArray, .int .i64 0] ∧ PtR q (pmul (leI xs).toNat a) ∧ Keep [] w w') := by
 have hB : Keep [] w w := Keep.refl _ _
 refine ac Tryz.func27 rfl (by decide) Tryz.ntmps27 rfl (fun fin _ hfin => a5 (aZ (ad (bZ (cs := [.int .u64 (p 0), .int .u64 (p 1), .int .u64 (p 2), .int .u64 (p 3), .int .u64 (p 4), .int .u64 (p 5), .int .u64 (p 6), .int .u64 (p 7), .int .u64 (p 8), .int .u64 (p 9), .int .u64 (p 10), .int .u64 (p 11), .int .u64 (p 12), .int .u64 (p 13), .int .u64 (p 14), .int .u64 (p 15), .int .u64 (p 16), .int .u64 (p 17), .int .u64 (p 18), .int .u64 (p 19)]) rfl rfl) rfl ?_)))
 rintro _ w1 ⟨b1, rfl, eb1, hb1, k1, z1⟩
 replace hB := hB.trans k1
 clear eb1 z1
 refine ad (aj bu) rfl ?_
 rintro _ w2 ⟨b2, rfl, eb2, hb2, k2, z2⟩
 have ge_b2 : w.heap.size ≤ b2 := by have := hB.size; omega
 obtain ⟨hB, hb1⟩ := bL k2 hB hb1
 clear eb2 z2
 refine oga rfl rfl (a6 (lF 64 (a5 (a5 (aZ (ogm rfl rfl (a7 (cH aA rfl (by first | assumption | exact Own.rd ‹_› | exact Rd.sD ‹_› hB | exact Own.rd (Own.sD ‹_› hB))) rfl (a7 (eU rfl rfl) rfl (a6 (ck rfl (by omega) (ag (a5 (aZ (ad (a8 (vs := []) rfl (me _)) rfl ?_))))))))))))))
 rintro _ w3 ⟨hh1, rfl, E1, k3⟩
 obtain ⟨hB, hb1, hb2⟩ := cc k3 hB hb1 hb2
 refine ad (aj bD) rfl ?_
 rintro _ w4 ⟨b3, rfl, eb3, hb3, k4, z3⟩
 have ge_b3 : w.heap.size ≤ b3 := by have := hB.size; omega
 have ne_b1_b3 : b1 ≠ b3 := by have := hb1.lt; omega
 have ne_b2_b3 : b2 ≠ b3 := by have := hb2.lt; omega
 obtain ⟨hB, hb1, hb2⟩ := cc k4 hB hb1 hb2
 clear eb3 z3
 refine ae (bB bD rfl rfl rfl ai hb3 rfl) ?_
 rintro _ w5 ⟨hb4, k5, z4⟩
 replace hb1 := hb1.keep k5 (nm ne_b1_b3)
 replace hb2 := hb2.keep k5 (nm ne_b2_b3)
 replace hB := hB.new k5 (nw ge_b3)
 clear z4
 replace hb4 := dg (g := hh1) hb4
 refine a6 (a5 (aZ (ad (aj ty99) rfl ?_)))
 rintro _ w6 ⟨b4, rfl, eb4, hb5, k6, z5⟩
 have ge_b4 : w.heap.size ≤ b4 := by have := hB.size; omega
 have ne_b1_b4 : b1 ≠ b4 := by have := hb1.lt; omega
 have ne_b2_b4 : b2 ≠ b4 := by have := hb2.lt; omega
 have ne_b3_b4 : b3 ≠ b4 := by have := hb4.lt; omega
 obtain ⟨hB, hb1, hb2, hb4⟩ := dE k6 hB hb1 hb2 hb4
 clear eb4 z5
 replace hb5 : Bk w6 b4 99 (iv .u64 320 (fun _ => 0)) := by rw [iv, bE]; exact hb5
 refine a6 (a5 (aZ (ad (a8 (vs := []) rfl (PzeroR _)) rfl ?_)))
 rintro _ w7 ⟨hh2, rfl, E2, k7⟩
 obtain ⟨hB, hb1, hb2, hb4, hb5⟩ := du k7 hB hb1 hb2 hb4 hb5
 refine a7 (aq Tryz.underlying99 bu rfl rfl (by decide)) rfl (ae (rY (g := hh2) bu rfl rfl hb5 (by first | omega | (unfold In at *; omega))) ?_)
 rintro _ w8 ⟨hb6, k8, z6⟩
 replace hb1 := hb1.keep k8 (nm ne_b1_b4)
 replace hb2 := hb2.keep k8 (nm ne_b2_b4)
 replace hb4 := hb4.keep k8 (nm ne_b3_b4)
 replace hB := hB.new k8 (nw ge_b4)
 clear z6
 replace hb6 : Bk w8 b4 _ (iv .u64 320 (updR (fun _ => 0) (0 + 0) 20 hh2)) := hb6
 refine a6 (a5 (a5 (aZ (oga rfl rfl (a6 (ab (bT (Γ := Int × (Nat → Int)) (fun ⟨i, U⟩ => [(1, v), (2, .pointer (some ⟨b1, 0, none⟩)), (4, .pointer (some ⟨b2, 0, none⟩)), (6, .pointer (some ⟨b3, 0, none⟩)), (7, .pointer (some ⟨b4, 0, none⟩)), (8, .int .i64 i)]) (fun ⟨i, U⟩ W => 1 ≤ i ∧ i ≤ 16 ∧ (∀ j, j < i.toNat → PtR (atN U (0 + j * 20)) (pmul j a)) ∧ Bk W b1 53 [.int .u64 (p 0), .int .u64 (p 1), .int .u64 (p 2), .int .u64 (p 3), .int .u64 (p 4), .int .u64 (p 5), .int .u64 (p 6), .int .u64 (p 7), .int .u64 (p 8), .int .u64 (p 9), .int .u64 (p 10), .int .u64 (p 11), .int .u64 (p 12), .int .u64 (p 13), .int .u64 (p 14), .int .u64 (p 15), .int .u64 (p 16), .int .u64 (p 17), .int .u64 (p 18), .int .u64 (p 19)] ∧ Bk W b2 53 [.int .u64 0, .int .u64 0, .int .u64 0, .int .u64 0, .int .u64 0, .int .u64 0, .int .u64 0, .int .u64 0, .int .u64 0, .int .u64 0, .int .u64 0, .int .u64 0, .int .u64 0, .int .u64 0, .int .u64 0, .int .u64 0, .int .u64 0, .int .u64 0, .int .u64 0, .int .u64 0] ∧ Bk W b3 51 [.int .u64 (hh1 0), .int .u64 (hh1 1), .int .u64 (hh1 2), .int .u64 (hh1 3), .int .u64 (hh1 4)] ∧ Bk W b4 99 (iv .u64 320 U) ∧ Keep [] w W) (fun ⟨i, U⟩ => (16 - i).toNat) ⟨1, (updR (fun _ => 0) (0 + 0) 20 hh2)⟩ ⟨rfl, rfl, rfl, rfl, rfl, rfl, trivial⟩ (⟨by decide, by decide, oC E2, hb1, hb2, hb4, hb6, hB⟩) ?_)))))))
 rintro ⟨i, U⟩ w9 ⟨hi0, hi1, hwin, hbx2, hbx4, hbx6, hbx7, hB⟩
 refine a9 [(1, v), (2, .pointer (some ⟨b1, 0, none⟩)), (4, .pointer (some ⟨b2, 0, none⟩)), (6, .pointer (some ⟨b3, 0, none⟩)), (7, .pointer (some ⟨b4, 0, none⟩)), (8, .int .i64 i)] ⟨rfl, rfl, rfl, rfl, rfl, rfl, trivial⟩ (a5 (a5 (aZ (ogm rfl rfl (a7 (bg rfl rfl) rfl (a6 (ba rfl (fun hc1 => ?_) (fun hc1 => ?_))))))))
 ·
  refine ag (a5 (ab (bc 9 [0, 1, 2, 3, 4, 5, 7, 6, 8] [6, 8] [] mixed [(8, _), (7, _), (2, _), (6, _), (1, _), (4, _), (18, _), (19, _)] ⟨rfl, rfl, rfl, rfl, rfl, rfl, rfl, rfl, trivial⟩ (by decide +kernel) rfl (fun w10 k9 => ?_))))
  obtain ⟨hB, hbx2, hbx4, hbx6, hbx7⟩ := du k9 hB hbx2 hbx4 hbx6 hbx7
  refine bH 8 rfl rfl rfl rfl rfl (bH 8 rfl rfl rfl rfl rfl (am 23 rfl rfl rfl rfl (fun W' kk => cy rfl rfl (by omega)) (cE 7 24 rfl rfl rfl rfl rfl (fun W' kk => aq Tryz.underlying99 bu rfl rfl (by constructor <;> omega)) (am 25 rfl rfl rfl rfl (fun W' kk => di da bu rfl (Bk.sD hbx7 kk) (by first | omega | (unfold In at *; omega))) (am 2 rfl rfl rfl rfl (fun W' kk => aa (cs' := [_, _, _, _, _, _, _, _, _, _, _, _, _, _, _, _, _, _, _, _]) da bu rfl (Bk.sD hbx2 kk) rfl rfl) (am 6 rfl rfl rfl rfl (fun W' kk => aa (cs' := [_, _, _, _, _]) bz bD rfl (Bk.sD hbx6 kk) rfl rfl) (bq [(27, _)] rfl rfl ⟨rfl, trivial⟩ rfl (a8 (vs := [_]) rfl (fullR hp _)) ?_)))))))
  rintro _ w11 ⟨hh3, rfl, E3, k10⟩
  refine ⟨k10, ?_⟩
  obtain ⟨hB, hbx2, hbx4, hbx6, hbx7⟩ := du k10 hB hbx2 hbx4 hbx6 hbx7
  refine bq [(26, _), (28, _), (29, _)] rfl rfl ⟨rfl, rfl, rfl, trivial⟩ rfl (a8 (vs := [_, _, _]) rfl (plusR (hwin ((i - 1)).toNat (by omega)) E3 (dW ha _) ha E1 _)) ?_
  rintro _ w12 ⟨hh4, rfl, E4, k11⟩
  refine ⟨k11, ?_⟩
  obtain ⟨hB, hbx2, hbx4, hbx6, hbx7⟩ := du k11 hB hbx2 hbx4 hbx6 hbx7
  refine bx (a7 (aq Tryz.underlying99 bu rfl rfl (by constructor <;> omega)) rfl (ae (rY (g := hh4) bu rfl rfl hbx7 (by first | omega | (unfold In at *; omega))) ?_))
  rintro _ w13 ⟨hb7, k12, z7⟩
  replace hbx2 := hbx2.keep k12 (nm ne_b1_b4)
  replace hbx4 := hbx4.keep k12 (nm ne_b2_b4)
  replace hbx6 := hbx6.keep k12 (nm ne_b3_b4)
  replace hB := hB.new k12 (nw ge_b4)
  clear z7
  replace hb7 : Bk w13 b4 _ (iv .u64 320 (updR U (0 + (i).toNat * 20) 20 hh4)) := hb7
  refine a6 (bf (aZ (ogm rfl rfl (a7 (bo rfl rfl (by omega)) rfl (oga rfl rfl (a6 (bX (Γ := Int × (Nat → Int)) ⟨i + 1, _⟩ ⟨rfl, rfl, rfl, rfl, rfl, rfl, trivial⟩ (by (try dsimp only); omega) (⟨by omega, by omega, pc hi0 hwin E4, hbx2, hbx4, hbx6, hb7, hB⟩))))))))
 ·
  refine bF rfl (a5 (aZ (ad (a8 (vs := []) rfl (PzeroR _)) rfl ?_)))
  rintro _ w14 ⟨hh5, rfl, E5, k13⟩
  obtain ⟨hB, hbx4, hbx6, hbx7⟩ := dE k13 hB hbx4 hbx6 hbx7
  refine ad (aj bu) rfl ?_
  rintro _ w15 ⟨b5, rfl, eb5, hb8, k14, z8⟩
  have ge_b5 : w.heap.size ≤ b5 := by have := hB.size; omega
  have ne_b2_b5 : b2 ≠ b5 := by have := hbx4.lt; omega
  have ne_b3_b5 : b3 ≠ b5 := by have := hbx6.lt; omega
  have ne_b4_b5 : b4 ≠ b5 := by have := hbx7.lt; omega
  obtain ⟨hB, hbx4, hbx6, hbx7⟩ := dE k14 hB hbx4 hbx6 hbx7
  clear eb5 z8
  refine ae (bB bu rfl rfl rfl ai hb8 rfl) ?_
  rintro _ w16 ⟨hb9, k15, z9⟩
  replace hbx4 := hbx4.keep k15 (nm ne_b2_b5)
  replace hbx6 := hbx6.keep k15 (nm ne_b3_b5)
  replace hbx7 := hbx7.keep k15 (nm ne_b4_b5)
  replace hB := hB.new k15 (nw ge_b5)
  clear z9
  replace hb9 := gK (g := hh5) hb9
  refine a6 (a5 (aZ (oga rfl rfl (a6 (a5 (lG (pn (Γ := Int × (Nat → Int)) (fun ⟨j, o⟩ => [(1, v), (4, .pointer (some ⟨b2, 0, none⟩)), (6, .pointer (some ⟨b3, 0, none⟩)), (7, .pointer (some ⟨b4, 0, none⟩)), (9, .pointer (some ⟨b5, 0, none⟩)), (10, .int .i64 j)]) (fun ⟨j, o⟩ W => 0 ≤ j ∧ j ≤ 63 ∧ PtR o (pmul (topN xs (j + 1) * 16) a) ∧ Bk W b2 53 [.int .u64 0, .int .u64 0, .int .u64 0, .int .u64 0, .int .u64 0, .int .u64 0, .int .u64 0, .int .u64 0, .int .u64 0, .int .u64 0, .int .u64 0, .int .u64 0, .int .u64 0, .int .u64 0, .int .u64 0, .int .u64 0, .int .u64 0, .int .u64 0, .int .u64 0, .int .u64 0] ∧ Bk W b3 51 [.int .u64 (hh1 0), .int .u64 (hh1 1), .int .u64 (hh1 2), .int .u64 (hh1 3), .int .u64 (hh1 4)] ∧ Bk W b4 99 (iv .u64 320 U) ∧ Bk W b5 53 [.int .u64 (o 0), .int .u64 (o 1), .int .u64 (o 2), .int .u64 (o 3), .int .u64 (o 4), .int .u64 (o 5), .int .u64 (o 6), .int .u64 (o 7), .int .u64 (o 8), .int .u64 (o 9), .int .u64 (o 10), .int .u64 (o 11), .int .u64 (o 12), .int .u64 (o 13), .int .u64 (o 14), .int .u64 (o 15), .int .u64 (o 16), .int .u64 (o 17), .int .u64 (o 18), .int .u64 (o 19)] ∧ Keep [] w W) (fun ⟨j, o⟩ => (j + 1).toNat) ⟨63, hh5⟩ ⟨rfl, rfl, rfl, rfl, rfl, rfl, trivial⟩ (⟨by decide, by decide, (by show PtR _ (pmul (topN xs 64 * 16) a); rw [po hx]; exact E5), hbx4, hbx6, hbx7, hb9, hB⟩) (by show (63 + 1 : Int).toNat ≤ 64; decide) (fun γ W h => by have := h.1; show 0 < (γ.1 + 1).toNat; omega) ?_)))))))
  rintro mm ⟨j, o⟩ w17 ⟨hj0, hj1, hO, hbx4, hbx6, hbx7, hbx9, hB⟩ hmu again
  refine a9 [(1, v), (4, .pointer (some ⟨b2, 0, none⟩)), (6, .pointer (some ⟨b3, 0, none⟩)), (7, .pointer (some ⟨b4, 0, none⟩)), (9, .pointer (some ⟨b5, 0, none⟩)), (10, .int .i64 j)] ⟨rfl, rfl, rfl, rfl, rfl, rfl, trivial⟩ (a5 (bc 15 [0, 1, 2, 3, 4, 5, 6, 7, 8, 9, 10, 11, 12, 13, 14] [14] [] mixed [(9, _), (1, _), (10, _), (7, _), (6, _), (4, _)] ⟨rfl, rfl, rfl, rfl, rfl, rfl, trivial⟩ (by decide +kernel) rfl (fun w18 k16 => ?_)))
  obtain ⟨hB, hbx4, hbx6, hbx7, hbx9⟩ := du k16 hB hbx4 hbx6 hbx7 hbx9
  refine am 9 rfl rfl rfl rfl (fun W' kk => aa (cs' := [_, _, _, _, _, _, _, _, _, _, _, _, _, _, _, _, _, _, _, _]) da bu rfl (Bk.sD hbx9 kk) rfl rfl) (bH 1 rfl rfl rfl rfl rfl (bH 10 rfl rfl rfl rfl rfl (am 35 rfl rfl rfl rfl (fun W' kk => er rfl rfl (by omega)) (cE 34 36 rfl rfl rfl rfl rfl (fun W' kk => bk aA cf rfl (by first | exact Rd.sD ‹_› kk | exact Rd.sD (Own.rd ‹_›) kk | exact Rd.sD (Rd.sD ‹_› hB) kk | exact Rd.sD (Own.rd (Own.sD ‹_› hB)) kk) rfl (by omega)) (am 37 rfl rfl rfl rfl (fun W' kk => dI gg rfl (by first | exact Rd.sD ‹_› kk | exact Rd.sD (Own.rd ‹_›) kk | exact Rd.sD (Rd.sD ‹_› hB) kk | exact Rd.sD (Own.rd (Own.sD ‹_› hB)) kk) (by omega)) (bH 10 rfl rfl rfl rfl rfl (am 39 rfl rfl rfl rfl (fun W' kk => fL rfl rfl (by omega)) (am 40 rfl rfl rfl rfl (fun W' kk => fe rfl rfl (by omega)) ?_))))))))
  refine cE 38 41 rfl rfl rfl rfl rfl (fun W' kk => fb rfl rfl (by constructor <;> (try simp only [IntKind.bits]) <;> omega)) (pw_gx (e' := nib xs j) (lo := 0) (hi := 15) [(42, _)] rfl rfl ⟨rfl, trivial⟩ rfl (fun W' kk => cn rfl rfl) (nib_eq hx hj0 hj1) (nib_in xs j) (fun z10 h1 r1 => cE 7 43 rfl rfl rfl rfl rfl (fun W' kk => aq Tryz.underlying99 bu rfl rfl (by have := r1; unfold In at this; omega)) (am 44 rfl rfl rfl rfl (fun W' kk => di da bu rfl (Bk.sD hbx7 kk) (by have := r1; unfold In at this; omega)) (am 6 rfl rfl rfl rfl (fun W' kk => aa (cs' := [_, _, _, _, _]) bz bD rfl (Bk.sD hbx6 kk) rfl rfl) (bq [(33, _), (45, _), (46, _)] rfl rfl ⟨rfl, rfl, rfl, trivial⟩ rfl (a8 (vs := [_, _, _]) rfl (plusR hO (hwin (z10).toNat (by have := r1; unfold In at this; omega)) (dW ha _) (dW ha _) E1 _)) ?_)))))
  rintro _ w19 ⟨hh6, rfl, E6, k17⟩
  refine ⟨k17, ?_⟩
  obtain ⟨hB, hbx4, hbx6, hbx7, hbx9⟩ := du k17 hB hbx4 hbx6 hbx7 hbx9
  replace E6 : PtR hh6 (pmul (topN xs j) a) := by rw [← qX ha hj0, ← h1]; exact E6
  refine bx (ae (bB bu rfl rfl rfl ai hbx9 rfl) ?_)
  rintro _ w20 ⟨hb10, k18, z11⟩
  replace hbx4 := hbx4.keep k18 (nm ne_b2_b5)
  replace hbx6 := hbx6.keep k18 (nm ne_b3_b5)
  replace hbx7 := hbx7.keep k18 (nm ne_b4_b5)
  replace hB := hB.new k18 (nw ge_b5)
  clear z11
  replace hb10 := gK (g := hh6) hb10
  refine a6 (a5 (a5 (aZ (ogm rfl rfl (a7 (fW rfl rfl) rfl (a6 (ba rfl (fun hc2 => ?_) (fun hc2 => ?_))))))))
  ·
   refine nP rfl (a5 (ag (a5 (aZ (a7 (aa (cs' := [_, _, _, _, _, _, _, _, _, _, _, _, _, _, _, _, _, _, _, _]) da bu rfl hb10 rfl rfl) rfl (ae (bB bu rfl rfl rfl (by simp only [List.forall_mem_cons]; refine ⟨rfl, rfl, rfl, rfl, rfl, rfl, rfl, rfl, rfl, rfl, rfl, rfl, rfl, rfl, rfl, rfl, rfl, rfl, rfl, rfl, fun v hv => by cases hv⟩) hbx4 rfl) ?_))))))
   rintro _ w21 ⟨hb11, k19, z12⟩
   replace hbx6 := hbx6.keep k19 (nm (Ne.symm ne_b2_b3))
   replace hbx7 := hbx7.keep k19 (nm (Ne.symm ne_b2_b4))
   replace hb10 := hb10.keep k19 (nm (Ne.symm ne_b2_b5))
   replace hB := hB.new k19 (nw ge_b2)
   clear z12
   replace hb11 := gK (g := hh6) hb11
   refine oga rfl rfl (a6 (cQ hfin Tryz.results27 rfl (ak da bu hb11 rfl) rfl ?_))
   exact ⟨hh6, rfl, (by have e : PtR hh6 (pmul (topN xs j) a) := E6; rw [hc2, oF] at e; exact e), hB⟩
  ·
   refine ag (a5 (a5 (aZ (ogm rfl rfl (a6 (ab (d7 4 (a5 (aZ (a7 (bg rfl rfl) rfl (a6 (a5 (bd rfl (by decide) (ag (a5 (ab (aZ (a7 (aa (cs' := [_, _, _, _, _, _, _, _, _, _, _, _, _, _, _, _, _, _, _, _]) da bu rfl hb10 rfl rfl) rfl (ad (a8 (vs := [_]) rfl (doubleR E6 (dW ha _) _)) rfl ?_)))))))))))))))))))
   rintro _ w22 ⟨hh7, rfl, E7, k20⟩
   obtain ⟨hB, hbx4, hbx6, hbx7, hb10⟩ := du k20 hB hbx4 hbx6 hbx7 hb10
   replace E7 : PtR hh7 (pmul ((topN xs j) * 2) a) := by rw [← fj ha]; exact E7
   refine ae (bB bu rfl rfl rfl ai hb10 rfl) ?_
   rintro _ w23 ⟨hb12, k21, z13⟩
   replace hbx4 := hbx4.keep k21 (nm ne_b2_b5)
   replace hbx6 := hbx6.keep k21 (nm ne_b3_b5)
   replace hbx7 := hbx7.keep k21 (nm ne_b4_b5)
   replace hB := hB.new k21 (nw ge_b5)
   clear z13
   replace hb12 := gK (g := hh7) hb12
   refine a6 (bf (aZ (a7 (bC (j := 1) (ay rfl rfl) (by decide)) rfl (ogm rfl rfl (a6 (cF (a5 (aZ (a7 (bg rfl rfl) rfl (a6 (a5 (bd rfl (by decide) (ag (a5 (ab (aZ (a7 (aa (cs' := [_, _, _, _, _, _, _, _, _, _, _, _, _, _, _, _, _, _, _, _]) da bu rfl hb12 rfl rfl) rfl (ad (a8 (vs := [_]) rfl (doubleR E7 (dW ha _) _)) rfl ?_))))))))))))))))))
   rintro _ w24 ⟨hh8, rfl, E8, k22⟩
   obtain ⟨hB, hbx4, hbx6, hbx7, hb12⟩ := du k22 hB hbx4 hbx6 hbx7 hb12
   replace E8 : PtR hh8 (pmul (((topN xs j) * 2) * 2) a) := by rw [← fj ha]; exact E8
   refine ae (bB bu rfl rfl rfl ai hb12 rfl) ?_
   rintro _ w25 ⟨hb13, k23, z14⟩
   replace hbx4 := hbx4.keep k23 (nm ne_b2_b5)
   replace hbx6 := hbx6.keep k23 (nm ne_b3_b5)
   replace hbx7 := hbx7.keep k23 (nm ne_b4_b5)
   replace hB := hB.new k23 (nw ge_b5)
   clear z14
   replace hb13 := gK (g := hh8) hb13
   refine a6 (bf (aZ (a7 (bC (j := 2) (ay rfl rfl) (by decide)) rfl (ogm rfl rfl (a6 (cF (a5 (aZ (a7 (bg rfl rfl) rfl (a6 (a5 (bd rfl (by decide) (ag (a5 (ab (aZ (a7 (aa (cs' := [_, _, _, _, _, _, _, _, _, _, _, _, _, _, _, _, _, _, _, _]) da bu rfl hb13 rfl rfl) rfl (ad (a8 (vs := [_]) rfl (doubleR E8 (dW ha _) _)) rfl ?_))))))))))))))))))
   rintro _ w26 ⟨hh9, rfl, E9, k24⟩
   obtain ⟨hB, hbx4, hbx6, hbx7, hb13⟩ := du k24 hB hbx4 hbx6 hbx7 hb13
   replace E9 : PtR hh9 (pmul ((((topN xs j) * 2) * 2) * 2) a) := by rw [← fj ha]; exact E9
   refine ae (bB bu rfl rfl rfl ai hb13 rfl) ?_
   rintro _ w27 ⟨hb14, k25, z15⟩
   replace hbx4 := hbx4.keep k25 (nm ne_b2_b5)
   replace hbx6 := hbx6.keep k25 (nm ne_b3_b5)
   replace hbx7 := hbx7.keep k25 (nm ne_b4_b5)
   replace hB := hB.new k25 (nw ge_b5)
   clear z15
   replace hb14 := gK (g := hh9) hb14
   refine a6 (bf (aZ (a7 (bC (j := 3) (ay rfl rfl) (by decide)) rfl (ogm rfl rfl (a6 (cF (a5 (aZ (a7 (bg rfl rfl) rfl (a6 (a5 (bd rfl (by decide) (ag (a5 (ab (aZ (a7 (aa (cs' := [_, _, _, _, _, _, _, _, _, _, _, _, _, _, _, _, _, _, _, _]) da bu rfl hb14 rfl rfl) rfl (ad (a8 (vs := [_]) rfl (doubleR E9 (dW ha _) _)) rfl ?_))))))))))))))))))
   rintro _ w28 ⟨hh10, rfl, E10, k26⟩
   obtain ⟨hB, hbx4, hbx6, hbx7, hb14⟩ := du k26 hB hbx4 hbx6 hbx7 hb14
   replace E10 : PtR hh10 (pmul (((((topN xs j) * 2) * 2) * 2) * 2) a) := by rw [← fj ha]; exact E10
   refine ae (bB bu rfl rfl rfl ai hb14 rfl) ?_
   rintro _ w29 ⟨hb15, k27, z16⟩
   replace hbx4 := hbx4.keep k27 (nm ne_b2_b5)
   replace hbx6 := hbx6.keep k27 (nm ne_b3_b5)
   replace hbx7 := hbx7.keep k27 (nm ne_b4_b5)
   replace hB := hB.new k27 (nw ge_b5)
   clear z16
   replace hb15 := gK (g := hh10) hb15
   refine a6 (bf (aZ (a7 (bC (j := 4) (ay rfl rfl) (by decide)) rfl (ogm rfl rfl (a6 (cF (a5 (aZ (a7 (bg rfl rfl) rfl (a6 (a5 (ck rfl (by decide) (bF rfl (a5 (aZ (ogm rfl rfl (a7 (cy rfl rfl (by omega)) rfl (oga rfl rfl (a6 (a5 (nP rfl (a5 (ag (a9 [(1, v), (4, .pointer (some ⟨b2, 0, none⟩)), (6, .pointer (some ⟨b3, 0, none⟩)), (7, .pointer (some ⟨b4, 0, none⟩)), (9, .pointer (some ⟨b5, 0, none⟩)), (10, .int .i64 (j - 1))] ⟨rfl, rfl, rfl, rfl, rfl, rfl, trivial⟩ ?_))))))))))))))))))))))))
   exact again ⟨j - 1, hh10⟩ _ (by show (j - 1 + 1).toNat ≤ _; have : (j + 1).toNat ≤ mm + 1 := hmu; omega) (⟨by omega, by omega, (by rw [show j - 1 + 1 = j by omega, show topN xs j * 16 = topN xs j * 2 * 2 * 2 * 2 by omega]; exact E10), hbx4, hbx6, hbx7, hb15, hB⟩)
theorem dc (f : Nat → Int) (hf : Sml f) (w : World) : Rets Tryz.prog 98 [.agg (iv .i64 16 f).toArray] w (fun v w' => ∃ g, v = .agg (iv .i64 16 g).toArray ∧ Car f g ∧ Keep [] w w') := by
 have hB : Keep [] w w := Keep.refl _ _
 refine ac Tryz.func98 rfl (by decide) Tryz.ntmps98 rfl (fun fin _ hfin => a5 (aZ (ad (bZ (cs := iv .i64 16 f) rfl rfl) rfl ?_)))
 rintro _ w1 ⟨b1, rfl, eb1, hb1, k1, z1⟩
 have ge_b1 : w.heap.size ≤ b1 := by have := hB.size; omega
 replace hB := hB.trans k1
 clear eb1 z1
 refine ad (aj bA) rfl ?_
 rintro _ w2 ⟨b2, rfl, eb2, hb2, k2, z2⟩
 have ge_b2 : w.heap.size ≤ b2 := by have := hB.size; omega
 have ne_b1_b2 : b1 ≠ b2 := by have := hb1.lt; omega
 obtain ⟨hB, hb1⟩ := bL k2 hB hb1
 clear eb2 z2
 replace hb2 : Bk w2 b2 65 (iv .i64 16 (fun _ => 0)) := by rw [iv, bE]; exact hb2
 refine a6 (a5 (a5 (aZ (oga rfl rfl (a6 (ab (bT (Γ := Nat × (Nat → Int)) (fun ⟨i, g⟩ => [(1, .pointer (some ⟨b1, 0, none⟩)), (2, .pointer (some ⟨b2, 0, none⟩)), (3, .int .i64 (i : Int))]) (fun ⟨i, g⟩ W => CarI f g i ∧ Bk W b1 65 (iv .i64 16 g) ∧ Bk W b2 65 (iv .i64 16 (fun _ => 0)) ∧ Keep [] w W) (fun ⟨i, g⟩ => 16 - i) ⟨0, f⟩ ⟨rfl, rfl, rfl, trivial⟩ (⟨nC hf, hb1, hb2, hB⟩) ?_)))))))
 rintro ⟨i, g⟩ w3 ⟨hI, hbx1, hbx2, hB⟩
 refine a9 [(1, .pointer (some ⟨b1, 0, none⟩)), (2, .pointer (some ⟨b2, 0, none⟩)), (3, .int .i64 (i : Int))] ⟨rfl, rfl, rfl, trivial⟩ (a5 (a5 (aZ (ogm rfl rfl (a7 (bg rfl rfl) rfl (a6 (ba rfl (fun hc1 => ?_) (fun hc1 => ?_))))))))
 ·
  refine ag (a5 (ab (a5 (aZ (ogm rfl rfl (a7 (ax 0 aE rfl dM (by decide) rfl rfl) rfl (a7 (ar i aF cj rfl rfl (by omega) (by omega)) rfl ?_)))))))
  have hi16 : i < 16 := by omega
  refine an (e' := g i) (lo := (-144115188075855872)) (hi := 144115188075855872) (ah dl rfl hbx1 (bM hi16)) (rfl) (nt hI hi16) rfl (fun z3 h1 r1 => an (e' := z3 / 65536) (lo := (-2199023255552)) (hi := 2199023255552) (cG (m := 65536) rfl rfl (by decide) rfl) (rfl) (In.wk (bi r1 (by decide)) rfl) rfl (fun z4 h2 r2 => oga rfl rfl (a6 (a5 (aZ (ogm rfl rfl (ogm rfl rfl (a7 (ax 0 aE rfl dM (by decide) rfl rfl) rfl (a7 (ar i aF cj rfl rfl (by omega) (by omega)) rfl (an (e' := g i) (lo := (-144115188075855872)) (hi := 144115188075855872) (ah dl rfl hbx1 (bM hi16)) (rfl) (nt hI hi16) rfl (fun z5 h3 r3 => ogm rfl rfl (an (e' := z4 * 65536) (lo := (-144115188075855872)) (hi := 144115188075855872) (dh (m := 65536) rfl rfl (by decide) rfl) (ap (dC r2 (by decide)) rfl) (In.wk (dC r2 (by decide)) rfl) rfl (fun z6 h4 r4 => an (e' := z5 - z6) (lo := (-288230376151711744)) (hi := 288230376151711744) (cX rfl rfl) (ap (cV r3 r4) rfl) (In.wk (cV r3 r4) rfl) rfl (fun z7 h5 r5 => a7 (ax 0 aE rfl dM (by decide) rfl rfl) rfl (a7 (ar i aF cj rfl rfl (by omega) (by omega)) rfl ?_)))))))))))))))
  refine ae (cg (v := z7) cj rfl rfl hbx1 (by omega)) ?_
  rintro _ w4 ⟨hb3, k3, z8⟩
  replace hbx2 := hbx2.keep k3 (nm (Ne.symm ne_b1_b2))
  replace hB := hB.new k3 (nw ge_b1)
  clear z8
  refine a6 (a9 [(1, _), (2, _), (3, _), (4, _)] ⟨rfl, rfl, rfl, rfl, trivial⟩ (a5 (aZ (ogm rfl rfl (a7 (bg rfl rfl) rfl (a6 (ba rfl (fun hc2 => ?_) (fun hc2 => ?_))))))))
  ·
   refine aZ (ogm rfl rfl (a7 (bo rfl rfl (by omega)) rfl (ogm rfl rfl (a7 (bo rfl rfl (by omega)) rfl (a7 (ax 0 aE rfl dM (by decide) rfl rfl) rfl (a7 (ar (i + 1) aF cj rfl rfl (by omega) (by omega)) rfl ?_))))))
   have hi15 : i < 15 := by omega
   refine an (e' := g (i + 1)) (lo := (-72057594037927936)) (hi := 72057594037927936) (ah dl rfl hb3 (bM (by omega))) (av _ _ (by omega)) (jv hf hI hi15) rfl (fun z9 h6 r6 => ogm rfl rfl (an (e' := z9 + z4) (lo := (-72059793061183488)) (hi := 72059793061183488) (ay rfl rfl) (ap (aw r6 r2) rfl) (In.wk (aw r6 r2) rfl) rfl (fun z10 h7 r7 => a7 (ax 0 aE rfl dM (by decide) rfl rfl) rfl (a7 (ar (i + 1) aF cj rfl rfl (by omega) (by omega)) rfl (ae (cg (v := z10) cj rfl rfl hb3 (by omega)) ?_)))))
   rintro _ w5 ⟨hb4, k4, z11⟩
   replace hbx2 := hbx2.keep k4 (nm (Ne.symm ne_b1_b2))
   replace hB := hB.new k4 (nw ge_b1)
   clear z11
   refine a6 (a9 [(1, _), (2, _), (3, _)] ⟨rfl, rfl, rfl, trivial⟩ (bf (aZ (ogm rfl rfl (a7 (bo rfl rfl (by omega)) rfl (oga rfl rfl (a6 (bX (Γ := Nat × (Nat → Int)) ⟨i + 1, _⟩ ⟨rfl, rfl, rfl, trivial⟩ (by (try dsimp only); omega) (⟨pY hf hI hi15 (show Eqn z4 (g i / 65536) from by have a := h2; have b := h1; unfold Eqn at *; rw [b] at a; exact a) h4 (show Eqn z7 (g i - z6) from by have a := h5; have b := h3; unfold Eqn at *; rw [b] at a; exact a) (show Eqn z10 (g (i + 1) + z4) from by have a := h7; have b := h6; unfold Eqn at *; rw [b] at a; exact a), hb4, hbx2, hB⟩)))))))))
  ·
   refine aZ (a7 (ax 0 aE rfl dM (by decide) rfl rfl) rfl (a7 (ar 0 aF cj rfl rfl (by omega) (by omega)) rfl (an (e' := g 0) (lo := 0) (hi := 65535) (ah dl rfl hb3 (bM (by decide))) (av _ _ (by omega)) (pX hI hi16 (by omega)) rfl (fun z12 h8 r8 => ogm rfl rfl (an (e' := 38 * z4) (lo := (-83562883710976)) (hi := 83562883710976) (dX rfl rfl) (ap (dD r2 (by decide)) rfl) (In.wk (dD r2 (by decide)) rfl) rfl (fun z13 h9 r9 => an (e' := z12 + z13) (lo := (-83562883710976)) (hi := 83562883776511) (ay rfl rfl) (ap (aw r8 r9) rfl) (In.wk (aw r8 r9) rfl) rfl (fun z14 h10 r10 => a7 (ax 0 aE rfl dM (by decide) rfl rfl) rfl (a7 (ar 0 aF cj rfl rfl (by omega) (by omega)) rfl (ae (cg (v := z14) cj rfl rfl hb3 (by omega)) ?_)))))))))
   rintro _ w6 ⟨hb5, k5, z15⟩
   replace hbx2 := hbx2.keep k5 (nm (Ne.symm ne_b1_b2))
   replace hB := hB.new k5 (nw ge_b1)
   clear z15
   refine a6 (a9 [(1, _), (2, _), (3, _)] ⟨rfl, rfl, rfl, trivial⟩ (bf (aZ (ogm rfl rfl (a7 (bo rfl rfl (by omega)) rfl (oga rfl rfl (a6 (bX (Γ := Nat × (Nat → Int)) ⟨i + 1, _⟩ ⟨rfl, rfl, rfl, trivial⟩ (by (try dsimp only); omega) (⟨pZ hI hi16 ‹_› (show Eqn z4 (g i / 65536) from by have a := h2; have b := h1; unfold Eqn at *; rw [b] at a; exact a) h4 (show Eqn z7 (g i - z6) from by have a := h5; have b := h3; unfold Eqn at *; rw [b] at a; exact a) h9 (show Eqn z14 (g 0 + z13) from by have a := h10; have b := h8; unfold Eqn at *; rw [b] at a; exact a), hb5, hbx2, hB⟩)))))))))
 ·
  refine bF rfl (a5 (aZ (a7 (aa (cs' := iv .i64 16 g) bj bA rfl hbx1 rfl rfl) rfl (ae (bh (vs := iv .i64 16 g) bA rfl rfl rfl ai hbx2 rfl) ?_))))
  rintro _ w7 ⟨hb6, k6, z16⟩
  replace hB := hB.new k6 (nw ge_b2)
  clear z16
  refine a6 (bW hfin Tryz.results98 rfl (ak bj bA hb6 rfl)  ?_)
  exact ⟨g, rfl, rh hI ‹_›, hB⟩
theorem fI (f g : Nat → Int) (a b : Fp) (hf : RN f a) (hg : RN g b) (w : World) : Rets Tryz.prog 77 [.agg (iv .i64 16 f).toArray, .agg (iv .i64 16 g).toArray] w (fun v w' => ∃ r, v = .agg (iv .i64 16 r).toArray ∧ RN r (a + b) ∧ Keep [] w w') := by
  have hB : Keep [] w w := Keep.refl _ _
  refine ac Tryz.func77 rfl (by decide) Tryz.ntmps77 rfl (fun fin _ hfin => a5 (aZ (ad (bZ (cs := iv .i64 16 f) rfl rfl) rfl ?_)))
  rintro _ w1 ⟨b1, rfl, eb1, hb1, k1, z1⟩
  have ge_b1 : w.heap.size ≤ b1 := by have := hB.size; omega
  replace hB := hB.trans k1
  clear eb1 z1
  refine ad (bZ (cs := iv .i64 16 g) rfl rfl) rfl ?_
  rintro _ w2 ⟨b2, rfl, eb2, hb2, k2, z2⟩
  have ne_b1_b2 : b1 ≠ b2 := by have := hb1.lt; omega
  obtain ⟨hB, hb1⟩ := bL k2 hB hb1
  clear eb2 z2
  refine ad (aj bA) rfl ?_
  rintro _ w3 ⟨b3, rfl, eb3, hb3, k3, z3⟩
  have ge_b3 : w.heap.size ≤ b3 := by have := hB.size; omega
  have ne_b1_b3 : b1 ≠ b3 := by have := hb1.lt; omega
  obtain ⟨hB, hb1, hb2⟩ := cc k3 hB hb1 hb2
  clear eb3 z3
  replace hb3 : Bk w3 b3 65 (iv .i64 16 (fun _ => 0)) := by rw [iv, bE]; exact hb3
  refine a6 (a5 (a5 (aZ (oga rfl rfl (a6 (ab (bT (Γ := Nat × (Nat → Int)) (fun ⟨i, h⟩ => [(2, .pointer (some ⟨b1, 0, none⟩)), (3, .pointer (some ⟨b2, 0, none⟩)), (4, .pointer (some ⟨b3, 0, none⟩)), (5, .int .i64 (i : Int))]) (fun ⟨i, h⟩ W => i ≤ 16 ∧ Part (fun j => f j + g j) f h i ∧ Bk W b1 65 (iv .i64 16 h) ∧ Bk W b2 65 (iv .i64 16 g) ∧ Bk W b3 65 (iv .i64 16 (fun _ => 0)) ∧ Keep [] w W) (fun ⟨i, h⟩ => 16 - i) ⟨0, f⟩ ⟨rfl, rfl, rfl, rfl, trivial⟩ (⟨by decide, eo _ _, hb1, hb2, hb3, hB⟩) ?_)))))))
  rintro ⟨i, h⟩ w4 ⟨hi, hI, hbx2, hbx3, hbx4, hB⟩
  refine a9 [(2, .pointer (some ⟨b1, 0, none⟩)), (3, .pointer (some ⟨b2, 0, none⟩)), (4, .pointer (some ⟨b3, 0, none⟩)), (5, .int .i64 (i : Int))] ⟨rfl, rfl, rfl, rfl, trivial⟩ (a5 (a5 (aZ (ogm rfl rfl (a7 (bg rfl rfl) rfl (a6 (ba rfl (fun hc1 => ?_) (fun hc1 => ?_))))))))
  · -- yes
    refine ag (a5 (ab (bO 11 [0, 1, 2, 3, 4, 5, 6, 7, 8, 9, 10] [] [] [] mixed [(5, _), (2, _), (3, _), (4, _)] ⟨rfl, rfl, rfl, rfl, trivial⟩ (by decide +kernel) (by decide) (by decide) ?_ (fun x hx => by cases hx) rfl (fun w5 k4 => ?_))))
    · intro q hq; cases hq
    obtain ⟨hB, hbx2, hbx3, hbx4⟩ := dE k4 hB hbx2 hbx3 hbx4
    refine cA 5 rfl rfl rfl rfl rfl (cA 5 rfl rfl rfl rfl rfl (al 2 rfl rfl rfl rfl (fun W' kk => ax 0 aE rfl dM (by decide) rfl rfl) (cm 11 12 rfl rfl rfl rfl rfl (fun W' kk => ar i aF cj rfl rfl (by omega) (by omega)) ?_)))
    have hi16 : i < 16 := by omega
    refine dd (e' := f i) (lo := (-4096)) (hi := 69631) [(13, _)] rfl rfl ⟨rfl, trivial⟩ rfl (fun W' kk => ah dl rfl (Bk.sD hbx2 kk) (bM hi16)) (hI.2 i (Nat.le_refl _)) (eZ hf i hi16) (fun z4 h1 r1 => cA 5 rfl rfl rfl rfl rfl (al 3 rfl rfl rfl rfl (fun W' kk => ax 0 aE rfl dM (by decide) rfl rfl) (cm 15 16 rfl rfl rfl rfl rfl (fun W' kk => ar i aF cj rfl rfl (by omega) (by omega)) (dd (e' := g i) (lo := (-4096)) (hi := 69631) [(17, _)] rfl rfl ⟨rfl, trivial⟩ rfl (fun W' kk => ah dl rfl (Bk.sD hbx3 kk) (bM hi16)) (rfl) (eZ hg i hi16) (fun z5 h2 r2 => dd (e' := z4 + z5) (lo := (-8192)) (hi := 139262) [(14, _), (18, _)] rfl rfl ⟨rfl, rfl, trivial⟩ rfl (fun W' kk => ay rfl rfl) (ap (aw r1 r2) rfl) (In.wk (aw r1 r2) rfl) (fun z6 h3 r3 => al 2 rfl rfl rfl rfl (fun W' kk => ax 0 aE rfl dM (by decide) rfl rfl) (cC (fun w6 k5 => ?_))))))))
    obtain ⟨hB, hbx2, hbx3, hbx4⟩ := dE k5 hB hbx2 hbx3 hbx4
    refine bP (a7 (ar i aF cj rfl rfl (by omega) (by omega)) rfl (ae (cg (v := z6) cj rfl rfl hbx2 (by omega)) ?_))
    rintro _ w7 ⟨hb4, k6, z7⟩
    replace hbx3 := hbx3.keep k6 (nm (Ne.symm ne_b1_b2))
    replace hbx4 := hbx4.keep k6 (nm (Ne.symm ne_b1_b3))
    replace hB := hB.new k6 (nw ge_b1)
    clear z7
    refine a6 (a9 [(5, _), (2, _), (3, _), (4, _)] ⟨rfl, rfl, rfl, rfl, trivial⟩ (bf (aZ (ogm rfl rfl (a7 (bo rfl rfl (by omega)) rfl (oga rfl rfl (a6 (bX (Γ := Nat × (Nat → Int)) ⟨i + 1, _⟩ ⟨rfl, rfl, rfl, rfl, trivial⟩ (by (try dsimp only); omega) (⟨by omega, fJ hI (by have a := h1; have b := h2; have c := h3; unfold Eqn at *; rw [c, a, b]), hb4, hbx3, hbx4, hB⟩)))))))))
  · -- no
    refine bF rfl (a5 (aZ (a7 (aa (cs' := iv .i64 16 h) bj bA rfl hbx2 rfl rfl) rfl (ad (a8 (vs := [_]) rfl (dc _ (add_sml hf hg (fun j hj => hI.1 j (by omega))) _)) rfl ?_))))
    rintro _ w8 ⟨hh1, rfl, E1, k7⟩
    obtain ⟨hB, hbx4⟩ := bL k7 hB hbx4
    refine ae (bh (vs := iv .i64 16 hh1) bA rfl rfl rfl ai hbx4 rfl) ?_
    rintro _ w9 ⟨hb5, k8, z8⟩
    replace hB := hB.new k8 (nw ge_b3)
    clear z8
    refine a6 (bW hfin Tryz.results77 rfl (ak bj bA hb5 rfl)  ?_)
    exact ⟨hh1, rfl, rn_add hf hg (fun j hj => hI.1 j (by omega)) E1, hB⟩
theorem eD (f g : Nat → Int) (a b : Fp) (hf : RN f a) (hg : RN g b) (w : World) : Rets Tryz.prog 76 [.agg (iv .i64 16 f).toArray, .agg (iv .i64 16 g).toArray] w (fun v w' => ∃ r, v = .agg (iv .i64 16 r).toArray ∧ RN r (a - b) ∧ Keep [] w w') := by
  have hB : Keep [] w w := Keep.refl _ _
  refine ac Tryz.func76 rfl (by decide) Tryz.ntmps76 rfl (fun fin _ hfin => a5 (aZ (ad (bZ (cs := iv .i64 16 f) rfl rfl) rfl ?_)))
  rintro _ w1 ⟨b1, rfl, eb1, hb1, k1, z1⟩
  have ge_b1 : w.heap.size ≤ b1 := by have := hB.size; omega
  replace hB := hB.trans k1
  clear eb1 z1
  refine ad (bZ (cs := iv .i64 16 g) rfl rfl) rfl ?_
  rintro _ w2 ⟨b2, rfl, eb2, hb2, k2, z2⟩
  have ne_b1_b2 : b1 ≠ b2 := by have := hb1.lt; omega
  obtain ⟨hB, hb1⟩ := bL k2 hB hb1
  clear eb2 z2
  refine ad (aj bA) rfl ?_
  rintro _ w3 ⟨b3, rfl, eb3, hb3, k3, z3⟩
  have ge_b3 : w.heap.size ≤ b3 := by have := hB.size; omega
  have ne_b1_b3 : b1 ≠ b3 := by have := hb1.lt; omega
  obtain ⟨hB, hb1, hb2⟩ := cc k3 hB hb1 hb2
  clear eb3 z3
  replace hb3 : Bk w3 b3 65 (iv .i64 16 (fun _ => 0)) := by rw [iv, bE]; exact hb3
  refine a6 (a5 (a5 (aZ (oga rfl rfl (a6 (ab (bT (Γ := Nat × (Nat → Int)) (fun ⟨i, h⟩ => [(2, .pointer (some ⟨b1, 0, none⟩)), (3, .pointer (some ⟨b2, 0, none⟩)), (4, .pointer (some ⟨b3, 0, none⟩)), (5, .int .i64 (i : Int))]) (fun ⟨i, h⟩ W => i ≤ 16 ∧ Part (fun j => f j - g j) f h i ∧ Bk W b1 65 (iv .i64 16 h) ∧ Bk W b2 65 (iv .i64 16 g) ∧ Bk W b3 65 (iv .i64 16 (fun _ => 0)) ∧ Keep [] w W) (fun ⟨i, h⟩ => 16 - i) ⟨0, f⟩ ⟨rfl, rfl, rfl, rfl, trivial⟩ (⟨by decide, eo _ _, hb1, hb2, hb3, hB⟩) ?_)))))))
  rintro ⟨i, h⟩ w4 ⟨hi, hI, hbx2, hbx3, hbx4, hB⟩
  refine a9 [(2, .pointer (some ⟨b1, 0, none⟩)), (3, .pointer (some ⟨b2, 0, none⟩)), (4, .pointer (some ⟨b3, 0, none⟩)), (5, .int .i64 (i : Int))] ⟨rfl, rfl, rfl, rfl, trivial⟩ (a5 (a5 (aZ (ogm rfl rfl (a7 (bg rfl rfl) rfl (a6 (ba rfl (fun hc1 => ?_) (fun hc1 => ?_))))))))
  · -- yes
    refine ag (a5 (ab (bO 11 [0, 1, 2, 3, 4, 5, 6, 7, 8, 9, 10] [] [] [] mixed [(5, _), (2, _), (3, _), (4, _)] ⟨rfl, rfl, rfl, rfl, trivial⟩ (by decide +kernel) (by decide) (by decide) ?_ (fun x hx => by cases hx) rfl (fun w5 k4 => ?_))))
    · intro q hq; cases hq
    obtain ⟨hB, hbx2, hbx3, hbx4⟩ := dE k4 hB hbx2 hbx3 hbx4
    refine cA 5 rfl rfl rfl rfl rfl (cA 5 rfl rfl rfl rfl rfl (al 2 rfl rfl rfl rfl (fun W' kk => ax 0 aE rfl dM (by decide) rfl rfl) (cm 11 12 rfl rfl rfl rfl rfl (fun W' kk => ar i aF cj rfl rfl (by omega) (by omega)) ?_)))
    have hi16 : i < 16 := by omega
    refine dd (e' := f i) (lo := (-4096)) (hi := 69631) [(13, _)] rfl rfl ⟨rfl, trivial⟩ rfl (fun W' kk => ah dl rfl (Bk.sD hbx2 kk) (bM hi16)) (hI.2 i (Nat.le_refl _)) (eZ hf i hi16) (fun z4 h1 r1 => cA 5 rfl rfl rfl rfl rfl (al 3 rfl rfl rfl rfl (fun W' kk => ax 0 aE rfl dM (by decide) rfl rfl) (cm 15 16 rfl rfl rfl rfl rfl (fun W' kk => ar i aF cj rfl rfl (by omega) (by omega)) (dd (e' := g i) (lo := (-4096)) (hi := 69631) [(17, _)] rfl rfl ⟨rfl, trivial⟩ rfl (fun W' kk => ah dl rfl (Bk.sD hbx3 kk) (bM hi16)) (rfl) (eZ hg i hi16) (fun z5 h2 r2 => dd (e' := z4 - z5) (lo := (-73727)) (hi := 73727) [(14, _), (18, _)] rfl rfl ⟨rfl, rfl, trivial⟩ rfl (fun W' kk => cX rfl rfl) (ap (cV r1 r2) rfl) (In.wk (cV r1 r2) rfl) (fun z6 h3 r3 => al 2 rfl rfl rfl rfl (fun W' kk => ax 0 aE rfl dM (by decide) rfl rfl) (cC (fun w6 k5 => ?_))))))))
    obtain ⟨hB, hbx2, hbx3, hbx4⟩ := dE k5 hB hbx2 hbx3 hbx4
    refine bP (a7 (ar i aF cj rfl rfl (by omega) (by omega)) rfl (ae (cg (v := z6) cj rfl rfl hbx2 (by omega)) ?_))
    rintro _ w7 ⟨hb4, k6, z7⟩
    replace hbx3 := hbx3.keep k6 (nm (Ne.symm ne_b1_b2))
    replace hbx4 := hbx4.keep k6 (nm (Ne.symm ne_b1_b3))
    replace hB := hB.new k6 (nw ge_b1)
    clear z7
    refine a6 (a9 [(5, _), (2, _), (3, _), (4, _)] ⟨rfl, rfl, rfl, rfl, trivial⟩ (bf (aZ (ogm rfl rfl (a7 (bo rfl rfl (by omega)) rfl (oga rfl rfl (a6 (bX (Γ := Nat × (Nat → Int)) ⟨i + 1, _⟩ ⟨rfl, rfl, rfl, rfl, trivial⟩ (by (try dsimp only); omega) (⟨by omega, fJ hI (by have a := h1; have b := h2; have c := h3; unfold Eqn at *; rw [c, a, b]), hb4, hbx3, hbx4, hB⟩)))))))))
  · -- no
    refine bF rfl (a5 (aZ (a7 (aa (cs' := iv .i64 16 h) bj bA rfl hbx2 rfl rfl) rfl (ad (a8 (vs := [_]) rfl (dc _ (sub_sml hf hg (fun j hj => hI.1 j (by omega))) _)) rfl ?_))))
    rintro _ w8 ⟨hh1, rfl, E1, k7⟩
    obtain ⟨hB, hbx4⟩ := bL k7 hB hbx4
    refine ae (bh (vs := iv .i64 16 hh1) bA rfl rfl rfl ai hbx4 rfl) ?_
    rintro _ w9 ⟨hb5, k8, z8⟩
    replace hB := hB.new k8 (nw ge_b3)
    clear z8
    refine a6 (bW hfin Tryz.results76 rfl (ak bj bA hb5 rfl)  ?_)
    exact ⟨hh1, rfl, rn_sub hf hg (fun j hj => hI.1 j (by omega)) E1, hB⟩
theorem oe (v : Value) (xs : List UInt8) (w : World) (hv : RdB w v xs) (hx : xs.length = 32) : Rets Tryz.prog 71 [v] w (fun v w' => ∃ r, v = .agg (iv .i64 16 r).toArray ∧ RN r (fp (leI xs)) ∧ Keep [] w w') := by
  have hB : Keep [] w w := Keep.refl _ _
  refine ac Tryz.func71 rfl (by decide) Tryz.ntmps71 rfl (fun fin _ hfin => a5 (aZ (ad (aj bA) rfl ?_)))
  rintro _ w1 ⟨b1, rfl, eb1, hb1, k1, z1⟩
  have ge_b1 : w.heap.size ≤ b1 := by have := hB.size; omega
  replace hB := hB.trans k1
  clear eb1 z1
  replace hb1 : Bk w1 b1 65 (iv .i64 16 (fun _ => 0)) := by rw [iv, bE]; exact hb1
  refine a6 (a5 (aZ (ad (aj bA) rfl ?_)))
  rintro _ w2 ⟨b2, rfl, eb2, hb2, k2, z2⟩
  have ge_b2 : w.heap.size ≤ b2 := by have := hB.size; omega
  have ne_b1_b2 : b1 ≠ b2 := by have := hb1.lt; omega
  obtain ⟨hB, hb1⟩ := bL k2 hB hb1
  clear eb2 z2
  replace hb2 : Bk w2 b2 65 (iv .i64 16 (fun _ => 0)) := by rw [iv, bE]; exact hb2
  refine a6 (a5 (a5 (aZ (oga rfl rfl (a6 (ab (bT (Γ := Nat × (Nat → Int)) (fun ⟨i, h⟩ => [(0, v), (2, .pointer (some ⟨b1, 0, none⟩)), (3, .pointer (some ⟨b2, 0, none⟩)), (4, .int .i64 (i : Int))]) (fun ⟨i, h⟩ W => i ≤ 16 ∧ Part (pairs xs) (fun _ => 0) h i ∧ Bk W b1 65 (iv .i64 16 (fun _ => 0)) ∧ Bk W b2 65 (iv .i64 16 h) ∧ Keep [] w W) (fun ⟨i, h⟩ => 16 - i) ⟨0, _⟩ ⟨rfl, rfl, rfl, rfl, trivial⟩ (⟨by decide, eo _ _, hb1, hb2, hB⟩) ?_)))))))
  rintro ⟨i, h⟩ w3 ⟨hi, hI, hbx2, hbx3, hB⟩
  refine a9 [(0, v), (2, .pointer (some ⟨b1, 0, none⟩)), (3, .pointer (some ⟨b2, 0, none⟩)), (4, .int .i64 (i : Int))] ⟨rfl, rfl, rfl, rfl, trivial⟩ (a5 (a5 (aZ (ogm rfl rfl (a7 (bg rfl rfl) rfl (a6 (ba rfl (fun hc1 => ?_) (fun hc1 => ?_))))))))
  · -- yes
    refine ag (a5 (ab (bO 17 [0, 1, 2, 3, 4, 5, 6, 7, 8, 9, 10, 11, 12, 13, 14, 15, 16] [] [] [] mixed [(4, _), (0, _), (3, _), (2, _)] ⟨rfl, rfl, rfl, rfl, trivial⟩ (by decide +kernel) (by decide) (by decide) ?_ (fun x hx => by cases hx) rfl (fun w4 k3 => ?_))))
    · intro q hq; cases hq
    obtain ⟨hB, hbx2, hbx3⟩ := cc k3 hB hbx2 hbx3
    refine cA 4 rfl rfl rfl rfl rfl (cA 0 rfl rfl rfl rfl rfl (cA 4 rfl rfl rfl rfl rfl (al 11 rfl rfl rfl rfl (fun W' kk => fe rfl rfl (by omega)) (cm 10 12 rfl rfl rfl rfl rfl (fun W' kk => bk aA cf rfl (by first | exact Rd.sD (by assumption) kk | exact Rd.sD (Own.rd (by assumption)) kk | exact Rd.sD (Rd.sD (by assumption) hB) kk | exact Rd.sD (Own.rd (Own.sD (by assumption) hB)) kk) rfl (by omega)) (al 13 rfl rfl rfl rfl (fun W' kk => dI gg rfl (by first | exact Rd.sD (by assumption) kk | exact Rd.sD (Own.rd (by assumption)) kk | exact Rd.sD (Rd.sD (by assumption) hB) kk | exact Rd.sD (Own.rd (Own.sD (by assumption) hB)) kk) (by omega)) (dd (e' := (gb xs ((2 * (i : Int))))) (lo := 0) (hi := 255) [(14, _)] rfl rfl ⟨rfl, trivial⟩ rfl (fun W' kk => ef (by rw [aH]; rfl) aK rfl) (ap (cK xs ((2 * (i : Int)))) rfl) ((cK xs ((2 * (i : Int))))) (fun z3 h1 r1 => cA 0 rfl rfl rfl rfl rfl (cA 4 rfl rfl rfl rfl rfl ?_))))))))
    refine al 17 rfl rfl rfl rfl (fun W' kk => fe rfl rfl (by omega)) (al 18 rfl rfl rfl rfl (fun W' kk => bo rfl rfl (by omega)) (cm 16 19 rfl rfl rfl rfl rfl (fun W' kk => bk aA cf rfl (by first | exact Rd.sD (by assumption) kk | exact Rd.sD (Own.rd (by assumption)) kk | exact Rd.sD (Rd.sD (by assumption) hB) kk | exact Rd.sD (Own.rd (Own.sD (by assumption) hB)) kk) rfl (by omega)) (al 20 rfl rfl rfl rfl (fun W' kk => dI gg rfl (by first | exact Rd.sD (by assumption) kk | exact Rd.sD (Own.rd (by assumption)) kk | exact Rd.sD (Rd.sD (by assumption) hB) kk | exact Rd.sD (Own.rd (Own.sD (by assumption) hB)) kk) (by omega)) (dd (e' := (gb xs (((2 * (i : Int)) + 1)))) (lo := 0) (hi := 255) [(21, _)] rfl rfl ⟨rfl, trivial⟩ rfl (fun W' kk => ef (by rw [aH]; rfl) aK rfl) (ap (cK xs (((2 * (i : Int)) + 1))) rfl) ((cK xs (((2 * (i : Int)) + 1)))) (fun z4 h2 r2 => dd (e' := z4 * 256) (lo := 0) (hi := 65280) [(22, _)] rfl rfl ⟨rfl, trivial⟩ rfl (fun W' kk => dX rfl rfl) (ap (dC r2 (by decide)) rfl) (In.wk (dC r2 (by decide)) rfl) (fun z5 h3 r3 => dd (e' := z3 + z5) (lo := 0) (hi := 65535) [(15, _), (23, _)] rfl rfl ⟨rfl, rfl, trivial⟩ rfl (fun W' kk => ay rfl rfl) (ap (aw r1 r3) rfl) (In.wk (aw r1 r3) rfl) (fun z6 h4 r4 => ?_)))))))
    refine al 3 rfl rfl rfl rfl (fun W' kk => ax 0 aE rfl dM (by decide) rfl rfl) (cC (fun w5 k4 => ?_))
    obtain ⟨hB, hbx2, hbx3⟩ := cc k4 hB hbx2 hbx3
    refine bP (a7 (ar i aF cj rfl rfl (by omega) (by omega)) rfl (ae (cg (v := z6) cj rfl rfl hbx3 (by omega)) ?_))
    rintro _ w6 ⟨hb3, k5, z7⟩
    replace hbx2 := hbx2.keep k5 (nm ne_b1_b2)
    replace hB := hB.new k5 (nw ge_b2)
    clear z7
    refine a6 (a9 [(4, _), (0, _), (3, _), (2, _)] ⟨rfl, rfl, rfl, rfl, trivial⟩ (bf (aZ (ogm rfl rfl (a7 (bo rfl rfl (by omega)) rfl (oga rfl rfl (a6 (bX (Γ := Nat × (Nat → Int)) ⟨i + 1, _⟩ ⟨rfl, rfl, rfl, rfl, trivial⟩ (by (try dsimp only); omega) (⟨by omega, fJ hI (by have a := h1; have b := h2; have c := h3; have d := h4; unfold Eqn pairs at *; rw [d, c, a, b]), hbx2, hb3, hB⟩)))))))))
  · -- no
    refine bF rfl (a5 (aZ (a7 (aa (cs' := iv .i64 16 h) bj bA rfl hbx3 rfl rfl) rfl (ae (bh (vs := iv .i64 16 h) bA rfl rfl rfl ai hbx2 rfl) ?_))))
    rintro _ w7 ⟨hb4, k6, z8⟩
    replace hB := hB.new k6 (nw ge_b1)
    clear z8
    refine a6 (bW hfin Tryz.results71 rfl (ak bj bA hb4 rfl)  ?_)
    exact ⟨h, rfl, rn_from hx (fun j hj => hI.1 j (by omega)), hB⟩
theorem cv (x : Int) (hx : In x 0 2147483647) (w : World) : Rets Tryz.prog 73 [.int .i64 x] w (fun v w' => ∃ r, v = .agg (iv .i64 16 r).toArray ∧ RN r (fp x) ∧ (Canl r ∧ vN r 16 = x) ∧ Keep [] w w') := by
 have hB : Keep [] w w := Keep.refl _ _
 refine ac Tryz.func73 rfl (by decide) Tryz.ntmps73 rfl (fun fin _ hfin => a5 (aZ (ad (aj bA) rfl ?_)))
 rintro _ w1 ⟨b1, rfl, eb1, hb1, k1, z1⟩
 have ge_b1 : w.heap.size ≤ b1 := by have := hB.size; omega
 replace hB := hB.trans k1
 clear eb1 z1
 replace hb1 : Bk w1 b1 65 (iv .i64 16 (fun _ => 0)) := by rw [iv, bE]; exact hb1
 refine a6 (a5 (aZ (ad (aj bA) rfl ?_)))
 rintro _ w2 ⟨b2, rfl, eb2, hb2, k2, z2⟩
 have ge_b2 : w.heap.size ≤ b2 := by have := hB.size; omega
 have ne_b1_b2 : b1 ≠ b2 := by have := hb1.lt; omega
 obtain ⟨hB, hb1⟩ := bL k2 hB hb1
 clear eb2 z2
 replace hb2 : Bk w2 b2 65 (iv .i64 16 (fun _ => 0)) := by rw [iv, bE]; exact hb2
 refine a6 (a5 (a5 (aZ (oga rfl rfl (a6 (ab (d7 3 (a5 (a5 (aZ (ogm rfl rfl (a7 (bg rfl rfl) rfl (a6 (bd rfl (by decide) (ag (a5 (ab (a5 (aZ (ogm rfl rfl (ogm rfl rfl (an (e' := x % 65536) (lo := 0) (hi := 65535) (cn rfl rfl) (jZ hx rfl rfl) (In.wk (bY _ (by decide)) rfl) rfl (fun z3 h1 r1 => a7 (ax 0 aE rfl dM (by decide) rfl rfl) rfl (a7 (ar 0 aF cj rfl rfl (by omega) (by omega)) rfl (ae (cg (v := z3) cj rfl rfl hb2 (by omega)) ?_)))))))))))))))))))))))))
 rintro _ w3 ⟨hb3, k3, z4⟩
 replace hb1 := hb1.keep k3 (nm ne_b1_b2)
 replace hB := hB.new k3 (nw ge_b2)
 clear z4
 refine a6 (aZ (ogm rfl rfl (an (e' := x / 65536) (lo := 0) (hi := 32767) (cG (m := 65536) rfl rfl (by decide) rfl) (rfl) (In.wk (bi hx (by decide)) rfl) rfl (fun z5 h2 r2 => oga rfl rfl (a6 (bf (aZ (ogm rfl rfl (a7 (bC (j := 1) (ay rfl rfl) (by decide)) rfl (oga rfl rfl (a6 (a9 [(0, _), (2, _), (3, _), (4, _)] ⟨rfl, rfl, rfl, rfl, trivial⟩ (cF (a5 (a5 (aZ (ogm rfl rfl (a7 (bg rfl rfl) rfl (a6 (bd rfl (by decide) (ag (a5 (ab (a5 (aZ (ogm rfl rfl (ogm rfl rfl (an (e' := z5 % 65536) (lo := 0) (hi := 65535) (cn rfl rfl) (jZ r2 rfl rfl) (In.wk (bY _ (by decide)) rfl) rfl (fun z6 h3 r3 => a7 (ax 0 aE rfl dM (by decide) rfl rfl) rfl (a7 (ar 1 aF cj rfl rfl (by omega) (by omega)) rfl ?_))))))))))))))))))))))))))))))
 refine ae (cg (v := z6) cj rfl rfl hb3 (by omega)) ?_
 rintro _ w4 ⟨hb4, k4, z7⟩
 replace hb1 := hb1.keep k4 (nm ne_b1_b2)
 replace hB := hB.new k4 (nw ge_b2)
 clear z7
 refine a6 (aZ (ogm rfl rfl (an (e' := z5 / 65536) (lo := 0) (hi := 0) (cG (m := 65536) rfl rfl (by decide) rfl) (rfl) (In.wk (bi r2 (by decide)) rfl) rfl (fun z8 h4 r4 => oga rfl rfl (a6 (bf (aZ (ogm rfl rfl (a7 (bC (j := 2) (ay rfl rfl) (by decide)) rfl (oga rfl rfl (a6 (a9 [(0, _), (2, _), (3, _), (4, _)] ⟨rfl, rfl, rfl, rfl, trivial⟩ (cF (a5 (a5 (aZ (ogm rfl rfl (a7 (bg rfl rfl) rfl (a6 (bd rfl (by decide) (ag (a5 (ab (a5 (aZ (ogm rfl rfl (ogm rfl rfl (an (e' := z8 % 65536) (lo := 0) (hi := 65535) (cn rfl rfl) (jZ r4 rfl rfl) (In.wk (bY _ (by decide)) rfl) rfl (fun z9 h5 r5 => a7 (ax 0 aE rfl dM (by decide) rfl rfl) rfl (a7 (ar 2 aF cj rfl rfl (by omega) (by omega)) rfl ?_))))))))))))))))))))))))))))))
 refine ae (cg (v := z9) cj rfl rfl hb4 (by omega)) ?_
 rintro _ w5 ⟨hb5, k5, z10⟩
 replace hb1 := hb1.keep k5 (nm ne_b1_b2)
 replace hB := hB.new k5 (nw ge_b2)
 clear z10
 refine a6 (aZ (ogm rfl rfl (an (e' := z8 / 65536) (lo := 0) (hi := 0) (cG (m := 65536) rfl rfl (by decide) rfl) (rfl) (In.wk (bi r4 (by decide)) rfl) rfl (fun z11 h6 r6 => oga rfl rfl (a6 (bf (aZ (ogm rfl rfl (a7 (bC (j := 3) (ay rfl rfl) (by decide)) rfl (oga rfl rfl (a6 (a9 [(0, _), (2, _), (3, _), (4, _)] ⟨rfl, rfl, rfl, rfl, trivial⟩ (cF (a5 (a5 (aZ (ogm rfl rfl (a7 (bg rfl rfl) rfl (a6 (ck rfl (by decide) (bF rfl (a5 (aZ (ogm rfl rfl (a7 (ax 0 aE rfl dM (by decide) rfl rfl) rfl (a7 (ar 3 aF cj rfl rfl (by omega) (by omega)) rfl (ae (cg (v := z11) cj rfl rfl hb5 (by omega)) ?_)))))))))))))))))))))))))))
 rintro _ w6 ⟨hb6, k6, z12⟩
 replace hb1 := hb1.keep k6 (nm ne_b1_b2)
 replace hB := hB.new k6 (nw ge_b2)
 clear z12
 refine a6 (a5 (aZ (a7 (aa (cs' := iv .i64 16 (upd (upd (upd (upd (fun _ => 0) 0 z3) 1 z6) 2 z9) 3 z11)) bj bA rfl hb6 rfl rfl) rfl (ad (a8 (vs := [_]) rfl (dc _ (rK (In.wk r1 rfl) (In.wk r3 rfl) (In.wk r5 rfl) (In.wk r6 rfl)) _)) rfl ?_))))
 rintro _ w7 ⟨hh1, rfl, E1, k7⟩
 obtain ⟨hB, hb1⟩ := bL k7 hB hb1
 refine ae (bh (vs := iv .i64 16 hh1) bA rfl rfl rfl ai hb1 rfl) ?_
 rintro _ w8 ⟨hb7, k8, z13⟩
 replace hB := hB.new k8 (nw ge_b1)
 clear z13
 refine a6 (a9 [(2, _)] ⟨rfl, trivial⟩ (bW hfin Tryz.results73 rfl (ak bj bA hb7 rfl)  ?_))
 exact ⟨hh1, rfl, qM hx h1 h2 h3 h4 h5 h6 E1, oV hx h1 h2 h3 h4 h5 h6 E1, hB⟩
theorem eL (w : World) : Rets Tryz.prog 73 [.int .i64 0] w (fun v w' => v = .agg (iv .i64 16 (fun _ => 0)).toArray ∧ Keep [] w w') :=
  (cv 0 (by decide) w).mono fun v w' ⟨r, e, _, h, k⟩ => ⟨by rw [e, qx h.1 h.2], k⟩
theorem bp (f g : Nat → Int) (a b : Fp) (hf : RN f a) (hg : RN g b) (w : World) : Rets Tryz.prog 74 [.agg (iv .i64 16 f).toArray, .agg (iv .i64 16 g).toArray] w (fun v w' => ∃ r, v = .agg (iv .i64 16 r).toArray ∧ RN r (a * b) ∧ Keep [] w w') := by
  have hB : Keep [] w w := Keep.refl _ _
  refine ac Tryz.func74 rfl (by decide) Tryz.ntmps74 rfl (fun fin _ hfin => a5 (aZ (ad (bZ (cs := iv .i64 16 f) rfl rfl) rfl ?_)))
  rintro _ w1 ⟨b1, rfl, eb1, hb1, k1, z1⟩
  replace hB := hB.trans k1
  clear eb1 z1
  refine ad (bZ (cs := iv .i64 16 g) rfl rfl) rfl ?_
  rintro _ w2 ⟨b2, rfl, eb2, hb2, k2, z2⟩
  obtain ⟨hB, hb1⟩ := bL k2 hB hb1
  clear eb2 z2
  refine ad (aj bA) rfl ?_
  rintro _ w3 ⟨b3, rfl, eb3, hb3, k3, z3⟩
  have ge_b3 : w.heap.size ≤ b3 := by have := hB.size; omega
  obtain ⟨hB, hb1, hb2⟩ := cc k3 hB hb1 hb2
  clear eb3 z3
  replace hb3 : Bk w3 b3 65 (iv .i64 16 (fun _ => 0)) := by rw [iv, bE]; exact hb3
  refine a6 (a5 (aZ (ad (aj ty129) rfl ?_)))
  rintro _ w4 ⟨b4, rfl, eb4, hb4, k4, z4⟩
  have ge_b4 : w.heap.size ≤ b4 := by have := hB.size; omega
  have ne_b1_b4 : b1 ≠ b4 := by have := hb1.lt; omega
  have ne_b2_b4 : b2 ≠ b4 := by have := hb2.lt; omega
  have ne_b3_b4 : b3 ≠ b4 := by have := hb3.lt; omega
  obtain ⟨hB, hb1, hb2, hb3⟩ := dE k4 hB hb1 hb2 hb3
  clear eb4 z4
  replace hb4 : Bk w4 b4 129 (iv .i64 31 (fun _ => 0)) := by rw [iv, bE]; exact hb4
  refine a6 (a5 (a5 (aZ (oga rfl rfl (a6 (ab (bT (Γ := Nat × (Nat → Int)) (fun ⟨i, t⟩ => [(2, .pointer (some ⟨b1, 0, none⟩)), (3, .pointer (some ⟨b2, 0, none⟩)), (4, .pointer (some ⟨b3, 0, none⟩)), (5, .pointer (some ⟨b4, 0, none⟩)), (6, .int .i64 (i : Int))]) (fun ⟨i, t⟩ W => i ≤ 16 ∧ MulI f g t i 0 ∧ Bk W b1 65 (iv .i64 16 f) ∧ Bk W b2 65 (iv .i64 16 g) ∧ Bk W b3 65 (iv .i64 16 (fun _ => 0)) ∧ Bk W b4 129 (iv .i64 31 t) ∧ Keep [] w W) (fun ⟨i, t⟩ => 16 - i) ⟨0, _⟩ ⟨rfl, rfl, rfl, rfl, rfl, trivial⟩ (⟨by decide, mj _ _, hb1, hb2, hb3, hb4, hB⟩) ?_)))))))
  rintro ⟨i, t⟩ w5 ⟨hi, hI, hbx2, hbx3, hbx4, hbx5, hB⟩
  refine a9 [(2, .pointer (some ⟨b1, 0, none⟩)), (3, .pointer (some ⟨b2, 0, none⟩)), (4, .pointer (some ⟨b3, 0, none⟩)), (5, .pointer (some ⟨b4, 0, none⟩)), (6, .int .i64 (i : Int))] ⟨rfl, rfl, rfl, rfl, rfl, trivial⟩ (a5 (a5 (aZ (ogm rfl rfl (a7 (bg rfl rfl) rfl (a6 (ba rfl (fun hc1 => ?_) (fun hc1 => ?_))))))))
  · -- yes
    refine ag (a5 (ab (a5 (aZ (oga rfl rfl (a6 (ab (bT (Γ := Nat × (Nat → Int)) (fun ⟨k, u⟩ => [(2, .pointer (some ⟨b1, 0, none⟩)), (3, .pointer (some ⟨b2, 0, none⟩)), (4, .pointer (some ⟨b3, 0, none⟩)), (5, .pointer (some ⟨b4, 0, none⟩)), (6, .int .i64 (i : Int)), (7, .int .i64 (k : Int))]) (fun ⟨k, u⟩ W => k ≤ 16 ∧ MulI f g u i k ∧ Bk W b1 65 (iv .i64 16 f) ∧ Bk W b2 65 (iv .i64 16 g) ∧ Bk W b3 65 (iv .i64 16 (fun _ => 0)) ∧ Bk W b4 129 (iv .i64 31 u) ∧ Keep [] w W) (fun ⟨k, u⟩ => 16 - k) ⟨0, t⟩ ⟨rfl, rfl, rfl, rfl, rfl, rfl, trivial⟩ (⟨by decide, hI, hbx2, hbx3, hbx4, hbx5, hB⟩) ?_))))))))
    rintro ⟨k, u⟩ w6 ⟨hk, hJ, hbx2, hbx3, hbx4, hbx5, hB⟩
    refine a9 [(2, .pointer (some ⟨b1, 0, none⟩)), (3, .pointer (some ⟨b2, 0, none⟩)), (4, .pointer (some ⟨b3, 0, none⟩)), (5, .pointer (some ⟨b4, 0, none⟩)), (6, .int .i64 (i : Int)), (7, .int .i64 (k : Int))] ⟨rfl, rfl, rfl, rfl, rfl, rfl, trivial⟩ (a5 (a5 (aZ (ogm rfl rfl (a7 (bg rfl rfl) rfl (a6 (ba rfl (fun hc2 => ?_) (fun hc2 => ?_))))))))
    · -- yes
      refine ag (a5 (ab (cI 18 mixed (by decide +kernel) (fun w7 k5 => ?_))))
      obtain ⟨hB, hbx2, hbx3, hbx4, hbx5⟩ := du k5 hB hbx2 hbx3 hbx4 hbx5
      refine ao (bb rfl) rfl (ao (bb rfl) rfl (ao (bo rfl rfl (by omega)) rfl (ao (bb rfl) rfl (ao (bb rfl) rfl (ao (bo rfl rfl (by omega)) rfl (ao (ar (i + k) Tryz.underlying129 cj rfl rfl (by omega) (by omega)) rfl ?_))))))
      have hi16 : i < 16 := by omega
      have hk16 : k < 16 := by omega
      refine cM (e' := u (i + k)) (lo := (-18691697672192)) (hi := 18691697672192) (ah dl rfl hbx5 (bM (by omega))) (rfl) (go hJ hi hk (by omega)) rfl (fun z5 h1 r1 => ao (bb rfl) rfl (ao (ax 0 aE rfl dM (by decide) rfl rfl) rfl (ao (ar i aF cj rfl rfl (by omega) (by omega)) rfl (cM (e' := f i) (lo := (-69631)) (hi := 69631) (ah dl rfl hbx2 (bM hi16)) (rfl) (In.wk (eZ hf i hi16) rfl) rfl (fun z6 h2 r2 => ao (bb rfl) rfl (ao (ax 0 aE rfl dM (by decide) rfl rfl) rfl (ao (ar k aF cj rfl rfl (by omega) (by omega)) rfl (cM (e' := g k) (lo := (-69631)) (hi := 69631) (ah dl rfl hbx3 (bM hk16)) (rfl) (In.wk (eZ hg k hk16) rfl) rfl (fun z7 h3 r3 => ?_)))))))))
      refine cM (e' := z6 * z7) (lo := (-4848476161)) (hi := 4848476161) (dX rfl rfl) (ap (nc r2 r3) rfl) (In.wk (nc r2 r3) rfl) rfl (fun z8 h4 r4 => cM (e' := z5 + z8) (lo := (-18696546148353)) (hi := 18696546148353) (ay rfl rfl) (ap (aw r1 r4) rfl) (In.wk (aw r1 r4) rfl) rfl (fun z9 h5 r5 => cU (a7 (ar (i + k) Tryz.underlying129 cj rfl rfl (by omega) (by omega)) rfl (ae (cg (v := z9) cj rfl rfl hbx5 (by omega)) ?_))))
      rintro _ w8 ⟨hb5, k6, z10⟩
      replace hbx2 := hbx2.keep k6 (nm ne_b1_b4)
      replace hbx3 := hbx3.keep k6 (nm ne_b2_b4)
      replace hbx4 := hbx4.keep k6 (nm ne_b3_b4)
      replace hB := hB.new k6 (nw ge_b4)
      clear z10
      refine a6 (a9 [(2, _), (3, _), (4, _), (5, _), (6, _), (7, _)] ⟨rfl, rfl, rfl, rfl, rfl, rfl, trivial⟩ (bf (aZ (ogm rfl rfl (a7 (bo rfl rfl (by omega)) rfl (oga rfl rfl (a6 (bX (Γ := Nat × (Nat → Int)) ⟨k + 1, _⟩ ⟨rfl, rfl, rfl, rfl, rfl, rfl, trivial⟩ (by (try dsimp only); omega) (⟨by omega, pE (p := z8) hf hg hJ hi16 hk16 (by have a := h2; have b := h3; have c := h4; unfold Eqn at *; rw [c, a, b]) (by have a := h1; have b := h5; unfold Eqn at *; rw [b, a]), hbx2, hbx3, hbx4, hb5, hB⟩)))))))))
    · -- no
      refine bF rfl (bf (aZ (ogm rfl rfl (a7 (bo rfl rfl (by omega)) rfl (oga rfl rfl (a6 (bX (Γ := Nat × (Nat → Int)) ⟨i + 1, u⟩ ⟨rfl, rfl, rfl, rfl, rfl, trivial⟩ (by (try dsimp only); omega) (⟨by omega, pF hJ (by omega), hbx2, hbx3, hbx4, hbx5, hB⟩))))))))
  · -- no
    refine bF rfl (a5 (aZ (ad (aj bA) rfl ?_)))
    rintro _ w9 ⟨b5, rfl, eb5, hb6, k7, z11⟩
    have ge_b5 : w.heap.size ≤ b5 := by have := hB.size; omega
    have ne_b3_b5 : b3 ≠ b5 := by have := hbx4.lt; omega
    have ne_b4_b5 : b4 ≠ b5 := by have := hbx5.lt; omega
    obtain ⟨hB, hbx2, hbx3, hbx4, hbx5⟩ := du k7 hB hbx2 hbx3 hbx4 hbx5
    clear eb5 z11
    replace hb6 : Bk w9 b5 65 (iv .i64 16 (fun _ => 0)) := by rw [iv, bE]; exact hb6
    refine a6 (a5 (a5 (aZ (oga rfl rfl (a6 (ab (bT (Γ := Nat × (Nat → Int)) (fun ⟨n, h⟩ => [(4, .pointer (some ⟨b3, 0, none⟩)), (5, .pointer (some ⟨b4, 0, none⟩)), (8, .pointer (some ⟨b5, 0, none⟩)), (9, .int .i64 (n : Int))]) (fun ⟨n, h⟩ W => n ≤ 16 ∧ Part (eg t) (fun _ => 0) h n ∧ Bk W b3 65 (iv .i64 16 (fun _ => 0)) ∧ Bk W b4 129 (iv .i64 31 t) ∧ Bk W b5 65 (iv .i64 16 h) ∧ Keep [] w W) (fun ⟨n, h⟩ => 16 - n) ⟨0, _⟩ ⟨rfl, rfl, rfl, rfl, trivial⟩ (⟨by decide, eo _ _, hbx4, hbx5, hb6, hB⟩) ?_)))))))
    rintro ⟨n, h⟩ w10 ⟨hn, hP, hbx4, hbx5, hbx8, hB⟩
    refine a9 [(4, .pointer (some ⟨b3, 0, none⟩)), (5, .pointer (some ⟨b4, 0, none⟩)), (8, .pointer (some ⟨b5, 0, none⟩)), (9, .int .i64 (n : Int))] ⟨rfl, rfl, rfl, rfl, trivial⟩ ?_
    have hM := qj hI (by omega)
    refine a5 (a5 (aZ (ogm rfl rfl (a7 (bg rfl rfl) rfl (a6 (ba rfl (fun hc3 => ?_) (fun hc3 => ?_)))))))
    · -- yes
      refine ag (a5 (ab (a5 (aZ (ogm rfl rfl (ogm rfl rfl (a7 (ar n Tryz.underlying129 cj rfl rfl (by omega) (by omega)) rfl ?_)))))))
      have hn16 : n < 16 := by omega
      refine an (e' := t n) (lo := (-18691697672192)) (hi := 18691697672192) (ah dl rfl hbx5 (bM (by omega))) (rfl) (go hM (by decide) (by decide) (by omega)) rfl (fun z12 h6 r6 => a7 (ax 0 aE rfl dM (by decide) rfl rfl) rfl (a7 (ar n aF cj rfl rfl (by omega) (by omega)) rfl (ae (cg (v := z12) cj rfl rfl hbx8 (by omega)) ?_)))
      rintro _ w11 ⟨hb7, k8, z13⟩
      replace hbx4 := hbx4.keep k8 (nm ne_b3_b5)
      replace hbx5 := hbx5.keep k8 (nm ne_b4_b5)
      replace hB := hB.new k8 (nw ge_b5)
      clear z13
      refine a6 (a5 (aZ (ogm rfl rfl (a7 (bg rfl rfl) rfl (a6 (ba rfl (fun hc4 => ?_) (fun hc4 => ?_)))))))
      · -- yes
        refine bO 12 [0, 1, 2, 3, 4, 5, 6, 7, 8, 9, 10, 11] [] [] [] mixed [(9, _), (8, _), (5, _), (4, _)] ⟨rfl, rfl, rfl, rfl, trivial⟩ (by decide +kernel) (by decide) (by decide) ?_ (fun x hx => by cases hx) rfl (fun w12 k9 => ?_)
        · intro q hq; cases hq
        obtain ⟨hB, hbx4, hbx5, hb7⟩ := dE k9 hB hbx4 hbx5 hb7
        refine cA 9 rfl rfl rfl rfl rfl (cA 9 rfl rfl rfl rfl rfl (al 8 rfl rfl rfl rfl (fun W' kk => ax 0 aE rfl dM (by decide) rfl rfl) (cm 50 51 rfl rfl rfl rfl rfl (fun W' kk => ar n aF cj rfl rfl (by omega) (by omega)) ?_)))
        have hn15 : n < 15 := by omega
        refine dd (e' := z12) (lo := (-18691697672192)) (hi := 18691697672192) [(52, _)] rfl rfl ⟨rfl, trivial⟩ rfl (fun W' kk => ah dl rfl (Bk.sD hb7 kk) (bM hn16)) (bn _ _ _) (r6) (fun z14 h7 r7 => cA 9 rfl rfl rfl rfl rfl (al 54 rfl rfl rfl rfl (fun W' kk => bo rfl rfl (by omega)) (cm 5 55 rfl rfl rfl rfl rfl (fun W' kk => ar (n + 16) Tryz.underlying129 cj rfl rfl (by omega) (by omega)) (dd (e' := t (n + 16)) (lo := (-18691697672192)) (hi := 18691697672192) [(56, _)] rfl rfl ⟨rfl, trivial⟩ rfl (fun W' kk => ah dl rfl (Bk.sD hbx5 kk) (bM (by omega))) (rfl) (go hM (by decide) (by decide) (by omega)) (fun z15 h8 r8 => dd (e' := 38 * z15) (lo := (-710284511543296)) (hi := 710284511543296) [(57, _)] rfl rfl ⟨rfl, trivial⟩ rfl (fun W' kk => dX rfl rfl) (ap (dD r8 (by decide)) rfl) (In.wk (dD r8 (by decide)) rfl) (fun z16 h9 r9 => dd (e' := z14 + z16) (lo := (-728976209215488)) (hi := 728976209215488) [(53, _), (58, _)] rfl rfl ⟨rfl, rfl, trivial⟩ rfl (fun W' kk => ay rfl rfl) (ap (aw r7 r9) rfl) (In.wk (aw r7 r9) rfl) (fun z17 h10 r10 => al 8 rfl rfl rfl rfl (fun W' kk => ax 0 aE rfl dM (by decide) rfl rfl) (cC (fun w13 k10 => ?_)))))))))
        obtain ⟨hB, hbx4, hbx5, hb7⟩ := dE k10 hB hbx4 hbx5 hb7
        refine bP (a7 (ar n aF cj rfl rfl (by omega) (by omega)) rfl (ae (cg (v := z17) cj rfl rfl hb7 (by omega)) ?_))
        rintro _ w14 ⟨hb8, k11, z18⟩
        replace hbx4 := hbx4.keep k11 (nm ne_b3_b5)
        replace hbx5 := hbx5.keep k11 (nm ne_b4_b5)
        replace hB := hB.new k11 (nw ge_b5)
        clear z18
        refine a6 (a9 [(9, _), (8, _), (5, _), (4, _)] ⟨rfl, rfl, rfl, rfl, trivial⟩ (bf (aZ (ogm rfl rfl (a7 (bo rfl rfl (by omega)) rfl (oga rfl rfl (a6 (bX (Γ := Nat × (Nat → Int)) ⟨n + 1, _⟩ ⟨rfl, rfl, rfl, rfl, trivial⟩ (by (try dsimp only); omega) (⟨by omega, mf hP (by have a := h6; have b := h7; have c := h8; have d := h9; have e := h10; unfold Eqn at *; rw [e, d, c, b, a, pN _ hn15]), hbx4, hbx5, hb8, hB⟩)))))))))
      · -- no
        refine ag (bf (aZ (ogm rfl rfl (a7 (bo rfl rfl (by omega)) rfl (oga rfl rfl (a6 (a9 [(4, _), (5, _), (8, _), (9, _)] ⟨rfl, rfl, rfl, rfl, trivial⟩ (bX (Γ := Nat × (Nat → Int)) ⟨n + 1, _⟩ ⟨rfl, rfl, rfl, rfl, trivial⟩ (by (try dsimp only); omega) (⟨by omega, fJ hP (by have a := h6; unfold Eqn at a; rw [a, pO _ (by assumption)]), hbx4, hbx5, hb7, hB⟩)))))))))
    · -- no
      refine bF rfl (a5 (aZ (a7 (aa (cs' := iv .i64 16 h) bj bA rfl hbx8 rfl rfl) rfl (ad (a8 (vs := [_]) rfl (dc _ (rL hM (fun j hj => hP.1 j (by omega))) _)) rfl ?_))))
      rintro _ w15 ⟨hh1, rfl, E1, k12⟩
      obtain ⟨hB, hbx4⟩ := bL k12 hB hbx4
      refine ad (a8 (vs := [_]) rfl (dc _ (ns (iL hM (fun j hj => hP.1 j (by omega))) E1).2 _)) rfl ?_
      rintro _ w16 ⟨hh2, rfl, E2, k13⟩
      obtain ⟨hB, hbx4⟩ := bL k13 hB hbx4
      refine ae (bh (vs := iv .i64 16 hh2) bA rfl rfl rfl ai hbx4 rfl) ?_
      rintro _ w17 ⟨hb9, k14, z19⟩
      replace hB := hB.new k14 (nw ge_b3)
      clear z19
      refine a6 (bW hfin Tryz.results74 rfl (ak bj bA hb9 rfl)  ?_)
      exact ⟨hh2, rfl, rn_mul hf hg hM (fun j hj => hP.1 j (by omega)) E1 E2, hB⟩
theorem rj {f g h : Nat → Int} {a : Fp} (hf : RN f a) (h1 : Car f g) (h2 : Car g h) : Sml h := by
 have b := iT hf
 have c1 := fZ h1 b.1 b.2
 have b1 := jX c1
 exact nu (fZ h2 (by omega) (by omega))
theorem eE (f : Nat → Int) (a : Fp) (hf : RN f a) (w : World) : Rets Tryz.prog 72 [.agg (iv .i64 16 f).toArray] w (fun v w' => OwnB w' w.heap.size v (fpB a) ∧ Keep [] w w') := by
  have hB : Keep [] w w := Keep.refl _ _
  refine ac Tryz.func72 rfl (by decide) Tryz.ntmps72 rfl (fun fin _ hfin => a5 (aZ (ad (bZ (cs := iv .i64 16 f) rfl rfl) rfl ?_)))
  rintro _ w1 ⟨b1, rfl, eb1, hb1, k1, z1⟩
  have ge_b1 : w.heap.size ≤ b1 := by have := hB.size; omega
  replace hB := hB.trans k1
  clear eb1 z1
  refine oga rfl rfl (a6 (a5 (aZ (a7 (aa (cs' := iv .i64 16 f) bj bA rfl hb1 rfl rfl) rfl (ad (a8 (vs := [_]) rfl (dc _ (rn_sm hf) _)) rfl ?_)))))
  rintro _ w2 ⟨hh1, rfl, E1, k2⟩
  obtain ⟨hB, hb1⟩ := bL k2 hB hb1
  refine ad (a8 (vs := [_]) rfl (dc _ (nu (fZ E1 (iT hf).1 (iT hf).2)) _)) rfl ?_
  rintro _ w3 ⟨hh2, rfl, E2, k3⟩
  obtain ⟨hB, hb1⟩ := bL k3 hB hb1
  refine ad (a8 (vs := [_]) rfl (dc _ (rj hf E1 E2) _)) rfl ?_
  rintro _ w4 ⟨hh3, rfl, E3, k4⟩
  obtain ⟨hB, hb1⟩ := bL k4 hB hb1
  refine ae (bh (vs := iv .i64 16 hh3) bA rfl rfl rfl ai hb1 rfl) ?_
  rintro _ w5 ⟨hb2, k5, z2⟩
  replace hB := hB.new k5 (nw ge_b1)
  clear z2
  refine a6 (a5 (a5 (aZ (oga rfl rfl (a6 (ab ?_))))))
  obtain ⟨_, _, hcan, hval⟩ := ri hf E1 E2 E3
  refine bT (Γ := Nat × (Nat → Int)) (fun ⟨k, n⟩ => [(1, .pointer (some ⟨b1, 0, none⟩)), (3, .int .i64 (k : Int))]) (fun ⟨k, n⟩ W => BytI a n k ∧ Bk W b1 65 (iv .i64 16 n) ∧ Keep [] w W) (fun ⟨k, n⟩ => 2 - k) ⟨0, _⟩ ⟨rfl, rfl, trivial⟩ (⟨nD hcan hval, hb2, hB⟩) ?_
  rintro ⟨k, n⟩ w6 ⟨hI, hbx1, hB⟩
  refine a9 [(1, .pointer (some ⟨b1, 0, none⟩)), (3, .int .i64 (k : Int))] ⟨rfl, rfl, trivial⟩ ?_
  have hk2 := hI.1
  refine a5 (a5 (aZ (ogm rfl rfl (a7 (bg rfl rfl) rfl (a6 (ba rfl (fun hc1 => ?_) (fun hc1 => ?_)))))))
  · -- yes
    refine ag (a5 (ab (a5 (aZ (a7 (aa (cs' := iv .i64 16 n) bj bA rfl hbx1 rfl rfl) rfl (ad (aj bA) rfl ?_))))))
    rintro _ w7 ⟨b2, rfl, eb2, hb3, k6, z3⟩
    have ge_b2 : w.heap.size ≤ b2 := by have := hB.size; omega
    have ne_b1_b2 : b1 ≠ b2 := by have := hbx1.lt; omega
    obtain ⟨hB, hbx1⟩ := bL k6 hB hbx1
    clear eb2 z3
    replace hb3 : Bk w7 b2 65 (iv .i64 16 (fun _ => 0)) := by rw [iv, bE]; exact hb3
    refine ae (bh (vs := iv .i64 16 n) bA rfl rfl rfl ai hb3 rfl) ?_
    rintro _ w8 ⟨hb4, k7, z4⟩
    replace hbx1 := hbx1.keep k7 (nm ne_b1_b2)
    replace hB := hB.new k7 (nw ge_b2)
    clear z4
    refine a6 (a5 (aZ (a7 (ax 0 aE rfl dM (by decide) rfl rfl) rfl (a7 (ar 0 aF cj rfl rfl (by omega) (by omega)) rfl (an (e' := n 0) (lo := 0) (hi := 65535) (ah dl rfl hb4 (bM (by decide))) (rfl) (hI.2.1 0 (by decide)) rfl (fun z5 h1 r1 => an (e' := z5 - 65517) (lo := (-65517)) (hi := 18) (cX rfl rfl) (ap (cV r1 (cq 65517)) rfl) (In.wk (cV r1 (cq 65517)) rfl) rfl (fun z6 h2 r2 => a7 (ax 0 aE rfl dM (by decide) rfl rfl) rfl (a7 (ar 0 aF cj rfl rfl (by omega) (by omega)) rfl ?_))))))))
    refine ae (cg (v := z6) cj rfl rfl hb4 (by omega)) ?_
    rintro _ w9 ⟨hb5, k8, z7⟩
    replace hbx1 := hbx1.keep k8 (nm ne_b1_b2)
    replace hB := hB.new k8 (nw ge_b2)
    clear z7
    refine a6 (a5 (a5 (aZ (oga rfl rfl (a6 (ab (bT (Γ := Nat × (Nat → Int)) (fun ⟨i, m⟩ => [(1, .pointer (some ⟨b1, 0, none⟩)), (4, .pointer (some ⟨b2, 0, none⟩)), (3, .int .i64 (k : Int)), (5, .int .i64 (i : Int))]) (fun ⟨i, m⟩ W => i ≤ 16 ∧ SubI n m i ∧ Bk W b1 65 (iv .i64 16 n) ∧ Bk W b2 65 (iv .i64 16 m) ∧ Keep [] w W) (fun ⟨i, m⟩ => 16 - i) ⟨1, _⟩ ⟨rfl, rfl, rfl, rfl, trivial⟩ (⟨by decide, oN hI.2.1 h1 h2, hbx1, hb5, hB⟩) ?_)))))))
    rintro ⟨i, m⟩ w10 ⟨hi, hS, hbx1, hbx4, hB⟩
    refine a9 [(1, .pointer (some ⟨b1, 0, none⟩)), (4, .pointer (some ⟨b2, 0, none⟩)), (3, .int .i64 (k : Int)), (5, .int .i64 (i : Int))] ⟨rfl, rfl, rfl, rfl, trivial⟩ ?_
    have hi1 := hS.1
    refine a5 (a5 (aZ (ogm rfl rfl (a7 (bg rfl rfl) rfl (a6 (ba rfl (fun hc2 => ?_) (fun hc2 => ?_)))))))
    · -- yes
      refine ag (a5 (ab (a5 (aZ (oga rfl rfl (a6 (a5 (a5 ?_))))))))
      refine aZ (ogm rfl rfl (a7 (fW rfl rfl) rfl (a6 (ba rfl (fun hc3 => ?_) (fun hc3 => ?_)))))
      · -- yes
        refine aZ (oga rfl rfl (a6 (a5 (aZ (oga rfl rfl (a6 (a5 (a5 ?_))))))))
        refine aZ (ogm rfl rfl (a7 (cy rfl rfl (by omega)) rfl (a7 (ax 0 aE rfl dM (by decide) rfl rfl) rfl (a7 (ar (i - 1) aF cj rfl rfl (by omega) (by omega)) rfl ?_))))
        have hi16 : i < 16 := by omega
        refine an (e' := m (i - 1)) (lo := (-65536)) (hi := 65535) (ah dl rfl hbx4 (bM (by omega))) (rfl) (hS.2.2.1) rfl (fun z8 h3 r3 => a7 (bg rfl rfl) rfl (a6 (ba rfl (fun hc4 => ?_) (fun hc4 => ?_))))
        · -- yes
          refine a5 (aZ (oga rfl rfl (a6 (a9 [(1, _), (4, _), (3, _), (5, _), (6, _), (7, _)] ⟨rfl, rfl, rfl, rfl, rfl, rfl, trivial⟩ (aZ (ogm rfl rfl (a7 (cy rfl rfl (by omega)) rfl (ogm rfl rfl ?_))))))))
          refine a7 (cy rfl rfl (by omega)) rfl (a7 (ax 0 aE rfl dM (by decide) rfl rfl) rfl (a7 (ar (i - 1) aF cj rfl rfl (by omega) (by omega)) rfl (an (e' := m (i - 1)) (lo := (-65536)) (hi := 65535) (ah dl rfl hbx4 (bM (by omega))) (rfl) (hS.2.2.1) rfl (fun z9 h4 r4 => an (e' := z9 + 65536) (lo := 0) (hi := 131071) (ay rfl rfl) (ap (aw r4 (cq 65536)) rfl) (In.wk (aw r4 (cq 65536)) rfl) rfl (fun z10 h5 r5 => a7 (ax 0 aE rfl dM (by decide) rfl rfl) rfl (a7 (ar (i - 1) aF cj rfl rfl (by omega) (by omega)) rfl (ae (cg (v := z10) cj rfl rfl hbx4 (by omega)) ?_)))))))
          rintro _ w11 ⟨hb6, k9, z11⟩
          replace hbx1 := hbx1.keep k9 (nm ne_b1_b2)
          replace hB := hB.new k9 (nw ge_b2)
          clear z11
          refine a6 (a9 [(1, _), (4, _), (3, _), (5, _), (6, _), (7, _)] ⟨rfl, rfl, rfl, rfl, rfl, rfl, trivial⟩ (aZ (ogm rfl rfl (ogm rfl rfl (a7 (ax 0 aE rfl dM (by decide) rfl rfl) rfl (a7 (ar i aF cj rfl rfl (by omega) (by omega)) rfl (an (e' := m i) (lo := 0) (hi := 65535) (ah dl rfl hb6 (bM hi16)) (av _ _ (by omega)) ((by rw [hS.2.2.2.1 i (Nat.le_refl _)]; exact hI.2.1 i hi16)) rfl (fun z12 h6 r6 => ogm rfl rfl ?_))))))))
          refine an (e' := z12 - 32767) (lo := (-32767)) (hi := 32768) (cX rfl rfl) (ap (cV r6 (cq 32767)) rfl) (In.wk (cV r6 (cq 32767)) rfl) rfl (fun z13 h7 r7 => ogm rfl rfl (an (e' := z13 - 1) (lo := (-32768)) (hi := 32767) (cX rfl rfl) (ap (cV r7 (cq 1)) rfl) (In.wk (cV r7 (cq 1)) rfl) rfl (fun z14 h8 r8 => a7 (ax 0 aE rfl dM (by decide) rfl rfl) rfl (a7 (ar i aF cj rfl rfl (by omega) (by omega)) rfl (ae (cg (v := z14) cj rfl rfl hb6 (by omega)) ?_)))))
          rintro _ w12 ⟨hb7, k10, z15⟩
          replace hbx1 := hbx1.keep k10 (nm ne_b1_b2)
          replace hB := hB.new k10 (nw ge_b2)
          clear z15
          refine a6 (a9 [(1, _), (4, _), (3, _), (5, _)] ⟨rfl, rfl, rfl, rfl, trivial⟩ (bf (aZ (ogm rfl rfl (a7 (bo rfl rfl (by omega)) rfl (oga rfl rfl (a6 (bX (Γ := Nat × (Nat → Int)) ⟨i + 1, _⟩ ⟨rfl, rfl, rfl, rfl, trivial⟩ (by (try dsimp only); omega) (⟨by omega, nQ hI.2.1 hS hi16 h3 hc4 (by have a := h5; have b := h4; have c := h3; unfold Eqn at *; rw [a, b, ← c]) h6 (by have a := h7; rw [sC hc3]; exact a) h8, hbx1, hb7, hB⟩)))))))))
        · -- no
          refine ag (aZ (ogm rfl rfl (ogm rfl rfl (a7 (ax 0 aE rfl dM (by decide) rfl rfl) rfl (a7 (ar i aF cj rfl rfl (by omega) (by omega)) rfl (an (e' := m i) (lo := 0) (hi := 65535) (ah dl rfl hbx4 (bM hi16)) (rfl) ((by rw [hS.2.2.2.1 i (Nat.le_refl _)]; exact hI.2.1 i hi16)) rfl (fun z16 h9 r9 => ogm rfl rfl (an (e' := z16 - 32767) (lo := (-32767)) (hi := 32768) (cX rfl rfl) (ap (cV r9 (cq 32767)) rfl) (In.wk (cV r9 (cq 32767)) rfl) rfl (fun z17 h10 r10 => ?_)))))))))
          refine ogm rfl rfl (an (e' := z17 - 0) (lo := (-32767)) (hi := 32768) (cX rfl rfl) (ap (cV r10 (cq 0)) rfl) (In.wk (cV r10 (cq 0)) rfl) rfl (fun z18 h11 r11 => a7 (ax 0 aE rfl dM (by decide) rfl rfl) rfl (a7 (ar i aF cj rfl rfl (by omega) (by omega)) rfl (ae (cg (v := z18) cj rfl rfl hbx4 (by omega)) ?_))))
          rintro _ w13 ⟨hb8, k11, z19⟩
          replace hbx1 := hbx1.keep k11 (nm ne_b1_b2)
          replace hB := hB.new k11 (nw ge_b2)
          clear z19
          refine a6 (a9 [(1, _), (4, _), (3, _), (5, _)] ⟨rfl, rfl, rfl, rfl, trivial⟩ (bf (aZ (ogm rfl rfl (a7 (bo rfl rfl (by omega)) rfl (oga rfl rfl (a6 (bX (Γ := Nat × (Nat → Int)) ⟨i + 1, _⟩ ⟨rfl, rfl, rfl, rfl, trivial⟩ (by (try dsimp only); omega) (⟨by omega, pu hI.2.1 hS hi16 h3 hc4 h9 (by have a := h10; rw [sC hc3]; exact a) h11, hbx1, hb8, hB⟩)))))))))
      · -- no
        refine ag (a5 (aZ (oga rfl rfl (a6 (a5 (a5 (aZ (ogm rfl rfl ?_))))))))
        refine a7 (cy rfl rfl (by omega)) rfl (a7 (ax 0 aE rfl dM (by decide) rfl rfl) rfl (a7 (ar (i - 1) aF cj rfl rfl (by omega) (by omega)) rfl ?_))
        have hi16 : i < 16 := by omega
        refine an (e' := m (i - 1)) (lo := (-65536)) (hi := 65535) (ah dl rfl hbx4 (bM (by omega))) (rfl) (hS.2.2.1) rfl (fun z20 h12 r12 => a7 (bg rfl rfl) rfl (a6 (ba rfl (fun hc5 => ?_) (fun hc5 => ?_))))
        · -- yes
          refine a5 (aZ (oga rfl rfl (a6 (a9 [(1, _), (4, _), (3, _), (5, _), (6, _), (7, _)] ⟨rfl, rfl, rfl, rfl, rfl, rfl, trivial⟩ (aZ (ogm rfl rfl (a7 (cy rfl rfl (by omega)) rfl (ogm rfl rfl ?_))))))))
          refine a7 (cy rfl rfl (by omega)) rfl (a7 (ax 0 aE rfl dM (by decide) rfl rfl) rfl (a7 (ar (i - 1) aF cj rfl rfl (by omega) (by omega)) rfl (an (e' := m (i - 1)) (lo := (-65536)) (hi := 65535) (ah dl rfl hbx4 (bM (by omega))) (rfl) (hS.2.2.1) rfl (fun z21 h13 r13 => an (e' := z21 + 65536) (lo := 0) (hi := 131071) (ay rfl rfl) (ap (aw r13 (cq 65536)) rfl) (In.wk (aw r13 (cq 65536)) rfl) rfl (fun z22 h14 r14 => a7 (ax 0 aE rfl dM (by decide) rfl rfl) rfl (a7 (ar (i - 1) aF cj rfl rfl (by omega) (by omega)) rfl (ae (cg (v := z22) cj rfl rfl hbx4 (by omega)) ?_)))))))
          rintro _ w14 ⟨hb9, k12, z23⟩
          replace hbx1 := hbx1.keep k12 (nm ne_b1_b2)
          replace hB := hB.new k12 (nw ge_b2)
          clear z23
          refine a6 (a9 [(1, _), (4, _), (3, _), (5, _), (6, _), (7, _)] ⟨rfl, rfl, rfl, rfl, rfl, rfl, trivial⟩ (aZ (ogm rfl rfl (ogm rfl rfl (a7 (ax 0 aE rfl dM (by decide) rfl rfl) rfl (a7 (ar i aF cj rfl rfl (by omega) (by omega)) rfl (an (e' := m i) (lo := 0) (hi := 65535) (ah dl rfl hb9 (bM hi16)) (av _ _ (by omega)) ((by rw [hS.2.2.2.1 i (Nat.le_refl _)]; exact hI.2.1 i hi16)) rfl (fun z24 h15 r15 => ogm rfl rfl ?_))))))))
          refine an (e' := z24 - 65535) (lo := (-65535)) (hi := 0) (cX rfl rfl) (ap (cV r15 (cq 65535)) rfl) (In.wk (cV r15 (cq 65535)) rfl) rfl (fun z25 h16 r16 => ogm rfl rfl (an (e' := z25 - 1) (lo := (-65536)) (hi := (-1)) (cX rfl rfl) (ap (cV r16 (cq 1)) rfl) (In.wk (cV r16 (cq 1)) rfl) rfl (fun z26 h17 r17 => a7 (ax 0 aE rfl dM (by decide) rfl rfl) rfl (a7 (ar i aF cj rfl rfl (by omega) (by omega)) rfl (ae (cg (v := z26) cj rfl rfl hb9 (by omega)) ?_)))))
          rintro _ w15 ⟨hb10, k13, z27⟩
          replace hbx1 := hbx1.keep k13 (nm ne_b1_b2)
          replace hB := hB.new k13 (nw ge_b2)
          clear z27
          refine a6 (a9 [(1, _), (4, _), (3, _), (5, _)] ⟨rfl, rfl, rfl, rfl, trivial⟩ (bf (aZ (ogm rfl rfl (a7 (bo rfl rfl (by omega)) rfl (oga rfl rfl (a6 (bX (Γ := Nat × (Nat → Int)) ⟨i + 1, _⟩ ⟨rfl, rfl, rfl, rfl, trivial⟩ (by (try dsimp only); omega) (⟨by omega, nQ hI.2.1 hS hi16 h12 hc5 (by have a := h14; have b := h13; have c := h12; unfold Eqn at *; rw [a, b, ← c]) h15 (by have a := h16; rw [sB hS.1 hc3]; exact a) h17, hbx1, hb10, hB⟩)))))))))
        · -- no
          refine ag (aZ (ogm rfl rfl (ogm rfl rfl (a7 (ax 0 aE rfl dM (by decide) rfl rfl) rfl (a7 (ar i aF cj rfl rfl (by omega) (by omega)) rfl (an (e' := m i) (lo := 0) (hi := 65535) (ah dl rfl hbx4 (bM hi16)) (rfl) ((by rw [hS.2.2.2.1 i (Nat.le_refl _)]; exact hI.2.1 i hi16)) rfl (fun z28 h18 r18 => ogm rfl rfl (an (e' := z28 - 65535) (lo := (-65535)) (hi := 0) (cX rfl rfl) (ap (cV r18 (cq 65535)) rfl) (In.wk (cV r18 (cq 65535)) rfl) rfl (fun z29 h19 r19 => ?_)))))))))
          refine ogm rfl rfl (an (e' := z29 - 0) (lo := (-65535)) (hi := 0) (cX rfl rfl) (ap (cV r19 (cq 0)) rfl) (In.wk (cV r19 (cq 0)) rfl) rfl (fun z30 h20 r20 => a7 (ax 0 aE rfl dM (by decide) rfl rfl) rfl (a7 (ar i aF cj rfl rfl (by omega) (by omega)) rfl (ae (cg (v := z30) cj rfl rfl hbx4 (by omega)) ?_))))
          rintro _ w16 ⟨hb11, k14, z31⟩
          replace hbx1 := hbx1.keep k14 (nm ne_b1_b2)
          replace hB := hB.new k14 (nw ge_b2)
          clear z31
          refine a6 (a9 [(1, _), (4, _), (3, _), (5, _)] ⟨rfl, rfl, rfl, rfl, trivial⟩ (bf (aZ (ogm rfl rfl (a7 (bo rfl rfl (by omega)) rfl (oga rfl rfl (a6 (bX (Γ := Nat × (Nat → Int)) ⟨i + 1, _⟩ ⟨rfl, rfl, rfl, rfl, trivial⟩ (by (try dsimp only); omega) (⟨by omega, pu hI.2.1 hS hi16 h12 hc5 h18 (by have a := h19; rw [sB hS.1 hc3]; exact a) h20, hbx1, hb11, hB⟩)))))))))
    · -- no
      refine bF rfl (a5 (aZ (a7 (ax 0 aE rfl dM (by decide) rfl rfl) rfl (a7 (ar 15 aF cj rfl rfl (by omega) (by omega)) rfl (an (e' := m 15) (lo := (-65536)) (hi := 65535) (ah dl rfl hbx4 (bM (by decide))) (rfl) ((by have h := hS.2.2.1; rw [show i = 16 by omega] at h; exact h)) rfl (fun z32 h21 r21 => a7 (j7 rfl rfl) rfl (a6 (ba rfl (fun hc6 => ?_) (fun hc6 => ?_)))))))))
      · -- yes
        refine aZ (a7 (aa (cs' := iv .i64 16 m) bj bA rfl hbx4 rfl rfl) rfl (ae (bh (vs := iv .i64 16 m) bA rfl rfl rfl ai hbx1 rfl) ?_))
        rintro _ w17 ⟨hb12, k15, z33⟩
        replace hbx4 := hbx4.keep k15 (nm (Ne.symm ne_b1_b2))
        replace hB := hB.new k15 (nw ge_b1)
        clear z33
        refine a6 (bf (aZ (ogm rfl rfl (a7 (bo rfl rfl (by omega)) rfl (oga rfl rfl (a6 (a9 [(1, _), (3, _)] ⟨rfl, rfl, trivial⟩ (bX (Γ := Nat × (Nat → Int)) ⟨k + 1, _⟩ ⟨rfl, rfl, trivial⟩ (by (try dsimp only); omega) (⟨rk hI (by omega) hS (by omega) h21 (by assumption), hb12, hB⟩)))))))))
      · -- no
        refine ag (bf (aZ (ogm rfl rfl (a7 (bo rfl rfl (by omega)) rfl (oga rfl rfl (a6 (a9 [(1, _), (3, _)] ⟨rfl, rfl, trivial⟩ (bX (Γ := Nat × (Nat → Int)) ⟨k + 1, _⟩ ⟨rfl, rfl, trivial⟩ (by (try dsimp only); omega) (⟨bytI_no hI (by omega) hS (by omega) h21 (by assumption), hbx1, hB⟩)))))))))
  · -- no
    refine bF rfl (a5 (aZ (oga rfl rfl (a6 (a5 (a5 (aZ (oga rfl rfl ?_))))))))
    refine a6 (ab (bT (Γ := Nat × Value) (fun ⟨i, v⟩ => [(1, .pointer (some ⟨b1, 0, none⟩)), (8, v), (9, .int .i64 (i : Int))]) (fun ⟨i, v⟩ W => i ≤ 16 ∧ Own W w.heap.size 5 1 v (2 * i) (bv (limbB n i)) ∧ (∀ x, x ∈ vblk v → x ≠ b1) ∧ Bk W b1 65 (iv .i64 16 n) ∧ Keep [] w W) (fun ⟨i, v⟩ => 16 - i) ⟨0, .slice none 0 0⟩ ⟨rfl, rfl, rfl, trivial⟩ (⟨by decide, dO _ _ _ _, (fun x hx => by cases hx), hbx1, hB⟩) ?_))
    rintro ⟨i, v⟩ w18 ⟨hi, ox, hsep, hbx1, hB⟩
    refine a9 [(1, .pointer (some ⟨b1, 0, none⟩)), (8, v), (9, .int .i64 (i : Int))] ⟨rfl, rfl, rfl, trivial⟩ (a5 (a5 (aZ (ogm rfl rfl (a7 (bg rfl rfl) rfl (a6 (ba rfl (fun hc7 => ?_) (fun hc7 => ?_))))))))
    · -- yes
      refine ag (a5 (ab (bO 13 [0, 1, 2, 3, 4, 5, 6, 7, 8, 9, 10, 11, 12] [12] [] [] mixed [(8, _), (9, _), (1, _)] ⟨rfl, rfl, rfl, trivial⟩ (by decide +kernel) (by decide) (by decide) ?_ (fun x hx => by cases hx) rfl (fun w19 k16 => ?_))))
      · intro q hq; cases hq
      replace hbx1 := hbx1.sD k16
      replace ox := ox.sD k16
      replace hB := hB.trans k16
      refine cA 8 rfl rfl rfl rfl rfl (cA 9 rfl rfl rfl rfl rfl (al 1 rfl rfl rfl rfl (fun W' kk => ax 0 aE rfl dM (by decide) rfl rfl) (cm 68 69 rfl rfl rfl rfl rfl (fun W' kk => ar i aF cj rfl rfl (by omega) (by omega)) ?_)))
      have hi16 : i < 16 := by omega
      refine dd (e' := n i) (lo := 0) (hi := 65535) [(70, _)] rfl rfl ⟨rfl, trivial⟩ rfl (fun W' kk => ah dl rfl (Bk.sD hbx1 kk) (bM hi16)) (rfl) (hI.2.1 i hi16) (fun z34 h22 r22 => dd (e' := z34 % 256) (lo := 0) (hi := 255) [(71, _)] rfl rfl ⟨rfl, trivial⟩ rfl (fun W' kk => ef (by rw [aK]; rfl) aH rfl) (cZ rfl _) (In.wk (bY _ (by decide)) rfl) (fun z35 h23 r23 => cA 9 rfl rfl rfl rfl rfl (al 1 rfl rfl rfl rfl (fun W' kk => ax 0 aE rfl dM (by decide) rfl rfl) (cm 73 74 rfl rfl rfl rfl rfl (fun W' kk => ar i aF cj rfl rfl (by omega) (by omega)) (dd (e' := n i) (lo := 0) (hi := 65535) [(75, _)] rfl rfl ⟨rfl, trivial⟩ rfl (fun W' kk => ah dl rfl (Bk.sD hbx1 kk) (bM hi16)) (rfl) (hI.2.1 i hi16) (fun z36 h24 r24 => dd (e' := z36 / 256) (lo := 0) (hi := 255) [(76, _)] rfl rfl ⟨rfl, trivial⟩ rfl (fun W' kk => cG (m := 256) rfl rfl (by decide) rfl) (rfl) (In.wk (bi r24 (by decide)) rfl) (fun z37 h25 r25 => dd (e' := z37) (lo := 0) (hi := 255) [(77, _)] rfl rfl ⟨rfl, trivial⟩ rfl (fun W' kk => ef (by rw [aK]; rfl) aH rfl) (ap r25 rfl) (r25) (fun z38 h26 r26 => bm [(72, _), (78, _)] rfl rfl ⟨rfl, rfl, trivial⟩ rfl (fun w21 k18 => ?_)))))))))
      replace hbx1 := hbx1.sD k18
      replace ox := ox.sD k18
      replace hB := hB.trans k18
      refine (eO (m := 2) (xs := [.tmp 72, .tmp 78]) (vs := [_, _]) aA cf (by decide) rfl rfl rfl (by simp only [List.forall_mem_cons]; exact ⟨rfl, rfl, fun v hv => by cases hv⟩) (by decide)).mono ?_
      rintro v1 w20 ⟨o1, nn1, lb1, k17, z39⟩
      refine ⟨k17, (fun x hx => ⟨.inr (o1.blk x (o1.rd.cblk ▸ hx)).1, (o1.blk x (o1.rd.cblk ▸ hx)).2⟩), ?_⟩
      replace hbx1 := hbx1.sD k17
      replace ox := ox.sD k17
      replace hB := hB.trans k17
      refine cC (fun w22 k19 => ?_)
      replace hbx1 := hbx1.sD k19
      replace ox := ox.sD k19
      replace o1 := o1.sD k19
      replace hB := hB.trans k19
      refine bP ?_
      replace o1 : Own w22 _ 5 1 v1 2 [.int .u8 z35, .int .u8 z38] := o1
      have hlt := hbx1.lt
      refine ad (rc aA cf (by decide) rfl rfl ox rfl o1.rd (by simp only [List.forall_mem_cons]; exact ⟨rfl, rfl, fun v hv => by cases hv⟩) ⟨by omega, by omega⟩ hB.size) rfl ?_
      rintro v9 w9 ⟨ox2, k9, lb9, _⟩
      rw [pJ hI.2.1 hi16 h22 h24 h23 h25 h26] at ox2
      have hsep2 : ∀ x, x ∈ vblk v9 → x ≠ b1 := fun x hx => (lb9 x hx).elim (fun h => hsep x h) (fun h => by omega)
      replace hB := hB.new k9 (fun x hx => .inl (ox.blk x hx).1)
      replace hbx1 := hbx1.keep k9 (fun hm => hsep _ hm rfl)
      clear o1 ox
      refine oga rfl rfl (a6 (a9 [(8, _), (9, _), (1, _)] ⟨rfl, rfl, rfl, trivial⟩ (bf (aZ (ogm rfl rfl (a7 (bo rfl rfl (by omega)) rfl (oga rfl rfl (a6 ?_))))))))
      refine bX (Γ := Nat × Value) ⟨i + 1, v9⟩ ⟨rfl, rfl, rfl, trivial⟩ (by (try dsimp only); omega) (⟨by omega, ox2, hsep2, hbx1, hB⟩)
    · -- no
      refine bF rfl (a5 (aZ (ogm rfl rfl (oga rfl rfl (a6 (bN hfin Tryz.results72 rfl ?_))))))
      have e : limbB n i = fpB a := qr hI (by omega) (by omega)
      have l : 2 * i = (fpB a).length := by rw [bG]; omega
      rw [e, l] at ox
      exact ⟨ox, hB⟩
def pbit (low width i : Int) : Bool := decide (width ≤ i) || decide (bits .and .i64 (low.fdiv (2 ^ min (IntKind.u64.wrap i).toNat IntKind.i64.bits)) 1 = 1)
def pe (low width bts : Int) : Nat → Nat
 | 0 => 0
 | j + 1 => 2 * pe low width bts j + bif pbit low width (bts - 1 - (j : Int)) then 1 else 0
theorem wrap_nn (x : Int) : 0 ≤ IntKind.u64.wrap x := by rw [cZ (k := .u64) rfl]; exact Int.emod_nonneg _ (by decide)
theorem qZ (a : Fp) (low width bts : Int) : fpow a (pe low width bts (bts - 1 - (bts - 1)).toNat) = fp 1 := by rw [Int.sub_self]; exact iK.symm
theorem pe_at {low width bts i : Int} (h0 : 0 ≤ i) (h1 : i ≤ bts - 1) : pe low width bts (bts - 1 - (i - 1)).toNat = 2 * pe low width bts (bts - 1 - i).toNat + bif pbit low width i then 1 else 0 := by
 rw [show (bts - 1 - (i - 1)).toNat = (bts - 1 - i).toNat + 1 by omega, pe, show bts - 1 - (((bts - 1 - i).toNat : Nat) : Int) = i by omega]
theorem pe_F {a : Fp} {low width bts i : Int} (h0 : 0 ≤ i) (h1 : i ≤ bts - 1) (hb : pbit low width i = false) : fpow a (pe low width bts (bts - 1 - i).toNat) * fpow a (pe low width bts (bts - 1 - i).toNat) = fpow a (pe low width bts (bts - 1 - (i - 1)).toNat) := by
 rw [pe_at h0 h1, hb, cond_false, Nat.add_zero, Nat.two_mul, d6]
theorem pe_T {a : Fp} {low width bts i : Int} (h0 : 0 ≤ i) (h1 : i ≤ bts - 1) (hb : pbit low width i = true) : fpow a (pe low width bts (bts - 1 - i).toNat) * fpow a (pe low width bts (bts - 1 - i).toNat) * a = fpow a (pe low width bts (bts - 1 - (i - 1)).toNat) := by
 rw [pe_at h0 h1, hb, cond_true, Nat.two_mul, d6, d6, jF]
theorem pe_end {a : Fp} {low width bts i : Int} (h : -1 ≤ i) (h0 : ¬ 0 ≤ i) : fpow a (pe low width bts (bts - 1 - i).toNat) = fpow a (pe low width bts bts.toNat) := by
 rw [show bts - 1 - i = bts by omega]
theorem pe_inv : pe 11 5 255 (255 : Int).toNat = P - 2 := by decide +kernel
theorem pe_root : pe 14 4 252 (252 : Int).toNat = 7237005577332262213973186563042994240829374041602535252466099000494570602494 := by decide +kernel
theorem pe_m1 : pe 3 3 253 (253 : Int).toNat = 14474011154664524427946373126085988481658748083205070504932198000989141204987 := by decide +kernel
theorem fp_two : fp 2 = 2 := by decide
theorem fH (f g : Nat → Int) (a b : Fp) (hf : RN f a) (hg : RN g b) (w : World) : Rets Tryz.prog 78 [.agg (iv .i64 16 f).toArray, .agg (iv .i64 16 g).toArray] w (fun v w' => v = .bool (decide (a = b)) ∧ Keep [] w w') := by
 have hB : Keep [] w w := Keep.refl _ _
 refine ac Tryz.func78 rfl (by decide) Tryz.ntmps78 rfl (fun fin _ hfin => a5 (aZ (ad (bZ (cs := iv .i64 16 f) rfl rfl) rfl ?_)))
 rintro _ w1 ⟨b1, rfl, eb1, hb1, k1, z1⟩
 replace hB := hB.trans k1
 clear eb1 z1
 refine ad (bZ (cs := iv .i64 16 g) rfl rfl) rfl ?_
 rintro _ w2 ⟨b2, rfl, eb2, hb2, k2, z2⟩
 obtain ⟨hB, hb1⟩ := bL k2 hB hb1
 clear eb2 z2
 refine oga rfl rfl (a6 (a5 (bc 7 [0, 3, 1, 2, 4, 5, 6] [1, 4] [] mixed [(2, _), (3, _), (4, _)] ⟨rfl, rfl, rfl, trivial⟩ (by decide +kernel) rfl (fun w3 k3 => ?_))))
 obtain ⟨hB, hb1, hb2⟩ := cc k3 hB hb1 hb2
 refine am 2 rfl rfl rfl rfl (fun W' kk => aa (cs' := iv .i64 16 f) bj bA rfl (Bk.sD hb1 kk) rfl rfl) (am 3 rfl rfl rfl rfl (fun W' kk => aa (cs' := iv .i64 16 g) bj bA rfl (Bk.sD hb2 kk) rfl rfl) (bq [(5, _)] rfl rfl ⟨rfl, trivial⟩ rfl (a8 (vs := [_]) rfl (eE _ _ hf _)) ?_))
 rintro v1 w4 ⟨o1, k4⟩
 refine ⟨k4, ?_⟩
 replace hB := hB.trans k4
 refine am 6 rfl rfl rfl rfl (fun W' kk => gt aA aH aW rfl (o1.sD kk).rd) (bq [(8, _)] rfl rfl ⟨rfl, trivial⟩ rfl (a8 (vs := [_]) rfl (eE _ _ hg _)) ?_)
 rintro v2 w5 ⟨o2, k5⟩
 refine ⟨k5, ?_⟩
 replace hB := hB.trans k5
 refine am 9 rfl rfl rfl rfl (fun W' kk => gt aA aH aW rfl (o2.sD kk).rd) (cE 7 10 rfl rfl rfl rfl rfl (fun W' kk => ng rfl rfl) (bx (oga rfl rfl (a6 (bN hfin Tryz.results78 rfl ?_)))))
 exact ⟨by rw [nj], hB⟩
theorem gV (f : Nat → Int) (a : Fp) (bts low width : Int) (hf : RN f a) (hb : 0 ≤ bts ∧ bts ≤ 1000) (w : World) : Rets Tryz.prog 99 [.agg (iv .i64 16 f).toArray, .int .i64 bts, .int .i64 low, .int .i64 width] w (fun v w' => ∃ r, v = .agg (iv .i64 16 r).toArray ∧ RN r (fpow a (pe low width bts bts.toNat)) ∧ Keep [] w w') := by
 have hB : Keep [] w w := Keep.refl _ _
 refine ac Tryz.func99 rfl (by decide) Tryz.ntmps99 rfl (fun fin _ hfin => a5 (aZ (ad (bZ (cs := iv .i64 16 f) rfl rfl) rfl ?_)))
 rintro _ w1 ⟨b1, rfl, eb1, hb1, k1, z1⟩
 replace hB := hB.trans k1
 clear eb1 z1
 refine ad (aj bA) rfl ?_
 rintro _ w2 ⟨b2, rfl, eb2, hb2, k2, z2⟩
 have ge_b2 : w.heap.size ≤ b2 := by have := hB.size; omega
 obtain ⟨hB, hb1⟩ := bL k2 hB hb1
 clear eb2 z2
 replace hb2 : Bk w2 b2 65 (iv .i64 16 (fun _ => 0)) := by rw [iv, bE]; exact hb2
 refine a6 (a5 (aZ (ad (a8 (vs := [_]) rfl (cv 1 (by decide) _)) rfl ?_)))
 rintro _ w3 ⟨hh1, rfl, E1, C1, k3⟩
 obtain ⟨hB, hb1, hb2⟩ := cc k3 hB hb1 hb2
 refine ad (aj bA) rfl ?_
 rintro _ w4 ⟨b3, rfl, eb3, hb3, k4, z3⟩
 have ge_b3 : w.heap.size ≤ b3 := by have := hB.size; omega
 have ne_b1_b3 : b1 ≠ b3 := by have := hb1.lt; omega
 have ne_b2_b3 : b2 ≠ b3 := by have := hb2.lt; omega
 obtain ⟨hB, hb1, hb2⟩ := cc k4 hB hb1 hb2
 clear eb3 z3
 replace hb3 : Bk w4 b3 65 (iv .i64 16 (fun _ => 0)) := by rw [iv, bE]; exact hb3
 refine ae (bh (vs := iv .i64 16 hh1) bA rfl rfl rfl ai hb3 rfl) ?_
 rintro _ w5 ⟨hb4, k5, z4⟩
 replace hb1 := hb1.keep k5 (nm ne_b1_b3)
 replace hb2 := hb2.keep k5 (nm ne_b2_b3)
 replace hB := hB.new k5 (nw ge_b3)
 clear z4
 refine a6 (a5 (a5 (aZ (ogm rfl rfl (a7 (cy rfl rfl (by omega)) rfl (oga rfl rfl (a6 (ab (bT (Γ := Int × (Nat → Int)) (fun ⟨i, n⟩ => [(4, .pointer (some ⟨b1, 0, none⟩)), (8, .pointer (some ⟨b2, 0, none⟩)), (9, .pointer (some ⟨b3, 0, none⟩)), (2, .int .i64 low), (3, .int .i64 width), (10, .int .i64 i)]) (fun ⟨i, n⟩ W => -1 ≤ i ∧ i ≤ bts - 1 ∧ RN n (fpow a (pe low width bts (bts - 1 - i).toNat)) ∧ Bk W b1 65 (iv .i64 16 f) ∧ Bk W b2 65 (iv .i64 16 (fun _ => 0)) ∧ Bk W b3 65 (iv .i64 16 n) ∧ Keep [] w W) (fun ⟨i, n⟩ => (i + 1).toNat) ⟨bts - 1, hh1⟩ ⟨rfl, rfl, rfl, rfl, rfl, rfl, trivial⟩ (⟨by omega, by omega, (by rw [qZ]; exact E1), hb1, hb2, hb4, hB⟩) ?_)))))))))
 rintro ⟨i, n⟩ w6 ⟨hi0, hi1, hN, hbx4, hbx8, hbx9, hB⟩
 refine a9 [(4, .pointer (some ⟨b1, 0, none⟩)), (8, .pointer (some ⟨b2, 0, none⟩)), (9, .pointer (some ⟨b3, 0, none⟩)), (2, .int .i64 low), (3, .int .i64 width), (10, .int .i64 i)] ⟨rfl, rfl, rfl, rfl, rfl, rfl, trivial⟩ (a5 (a5 (aZ (ogm rfl rfl (a7 (j7 rfl rfl) rfl (a6 (ba rfl (fun hc1 => ?_) (fun hc1 => ?_))))))))
 ·
  refine ag (a5 (ab (a5 (aZ (a7 (aa (cs' := iv .i64 16 n) bj bA rfl hbx9 rfl rfl) rfl (a7 (aa (cs' := iv .i64 16 n) bj bA rfl hbx9 rfl rfl) rfl (ad (a8 (vs := [_, _]) rfl (bp _ _ _ _ hN hN _)) rfl ?_)))))))
  rintro _ w7 ⟨hh2, rfl, E2, k6⟩
  obtain ⟨hB, hbx4, hbx8, hbx9⟩ := dE k6 hB hbx4 hbx8 hbx9
  refine ae (bh (vs := iv .i64 16 hh2) bA rfl rfl rfl ai hbx9 rfl) ?_
  rintro _ w8 ⟨hb5, k7, z5⟩
  replace hbx4 := hbx4.keep k7 (nm ne_b1_b3)
  replace hbx8 := hbx8.keep k7 (nm ne_b2_b3)
  replace hB := hB.new k7 (nw ge_b3)
  clear z5
  refine a6 (a5 (aZ (ogm rfl rfl (ogm rfl rfl (a7 (j7 rfl rfl) rfl (ogm rfl rfl (gY 24 false rfl (fun c1 hgc1 => de [(2, _)] (dT rfl rfl rfl hgc1) ⟨fS rfl, trivial⟩ (fun hw1 => bb rfl) rfl (de [(10, _)] (dT rfl rfl rfl hgc1) ⟨fS rfl, trivial⟩ (fun hw2 => bb rfl) rfl (de [(26, _)] (dT rfl rfl rfl hgc1) ⟨dU rfl, trivial⟩ (fun hw3 => ef (by rw [aK]; rfl) aR rfl) rfl (de [(25, _), (27, _)] (dT rfl rfl rfl hgc1) ⟨dU rfl, dU rfl, trivial⟩ (fun hw4 => g_shra rfl rfl (wrap_nn _)) rfl (de [(28, _)] (dT rfl rfl rfl hgc1) ⟨dU rfl, trivial⟩ (fun hw5 => cn rfl rfl) rfl (de [(29, _)] (dT rfl rfl rfl hgc1) ⟨dU rfl, trivial⟩ (fun hw6 => fW rfl rfl) rfl (a7 (gO rfl rfl hgc1) rfl ?_))))))))))))))
  refine a6 (a9 [(4, _), (8, _), (9, _), (2, _), (3, _), (10, _), (31, _)] ⟨rfl, rfl, rfl, rfl, rfl, rfl, rfl, trivial⟩ (dV rfl (fun hc2 => ?_) (fun hc2 => ?_)))
  ·
   have hd1 := hc2
   try (simp only [Bool.and_eq_true, Bool.or_eq_true, decide_eq_true_eq, Bool.and_eq_false_iff, Bool.or_eq_false_iff, decide_eq_false_iff_not, Bool.not_eq_true', Bool.not_eq_false', Bool.not_eq_true, Bool.not_eq_false, ne_eq, Decidable.not_not] at hd1)
   refine aZ (a7 (aa (cs' := iv .i64 16 hh2) bj bA rfl hb5 rfl rfl) rfl (a7 (aa (cs' := iv .i64 16 f) bj bA rfl hbx4 rfl rfl) rfl (ad (a8 (vs := [_, _]) rfl (bp _ _ _ _ E2 hf _)) rfl ?_)))
   rintro _ w9 ⟨hh3, rfl, E3, k8⟩
   obtain ⟨hB, hbx4, hbx8, hb5⟩ := dE k8 hB hbx4 hbx8 hb5
   refine ae (bh (vs := iv .i64 16 hh3) bA rfl rfl rfl ai hb5 rfl) ?_
   rintro _ w10 ⟨hb6, k9, z6⟩
   replace hbx4 := hbx4.keep k9 (nm ne_b1_b3)
   replace hbx8 := hbx8.keep k9 (nm ne_b2_b3)
   replace hB := hB.new k9 (nw ge_b3)
   clear z6
   refine a6 (bf (aZ (ogm rfl rfl (a7 (cy rfl rfl (by omega)) rfl (oga rfl rfl (a6 (bX (Γ := Int × (Nat → Int)) ⟨i - 1, hh3⟩ ⟨rfl, rfl, rfl, rfl, rfl, rfl, trivial⟩ (by (try dsimp only); omega) (⟨by omega, by omega, (by rw [← pe_T (by omega) hi1 hc2]; exact E3), hbx4, hbx8, hb6, hB⟩))))))))
  ·
   have hd2 := hc2
   try (simp only [Bool.and_eq_true, Bool.or_eq_true, decide_eq_true_eq, Bool.and_eq_false_iff, Bool.or_eq_false_iff, decide_eq_false_iff_not, Bool.not_eq_true', Bool.not_eq_false', Bool.not_eq_true, Bool.not_eq_false, ne_eq, Decidable.not_not] at hd2)
   refine ag (bf (aZ (ogm rfl rfl (a7 (cy rfl rfl (by omega)) rfl (oga rfl rfl (a6 (bX (Γ := Int × (Nat → Int)) ⟨i - 1, hh2⟩ ⟨rfl, rfl, rfl, rfl, rfl, rfl, trivial⟩ (by (try dsimp only); omega) (⟨by omega, by omega, (by rw [← pe_F (by omega) hi1 hc2]; exact E2), hbx4, hbx8, hb5, hB⟩))))))))
 ·
  refine bF rfl (a5 (aZ (a7 (aa (cs' := iv .i64 16 n) bj bA rfl hbx9 rfl rfl) rfl (ae (bh (vs := iv .i64 16 n) bA rfl rfl rfl ai hbx8 rfl) ?_))))
  rintro _ w11 ⟨hb7, k10, z7⟩
  replace hB := hB.new k10 (nw ge_b2)
  clear z7
  refine a6 (bW hfin Tryz.results99 rfl (ak bj bA hb7 rfl)  ?_)
  exact ⟨n, rfl, (by rw [← pe_end (a := a) hi0 ‹_›]; exact hN), hB⟩
theorem ei (f : Nat → Int) (a : Fp) (hf : RN f a) (w : World) : Rets Tryz.prog 80 [.agg (iv .i64 16 f).toArray] w (fun v w' => ∃ r, v = .agg (iv .i64 16 r).toArray ∧ RN r (inv a) ∧ Keep [] w w') := by
 have hB : Keep [] w w := Keep.refl _ _
 refine ac Tryz.func80 rfl (by decide) Tryz.ntmps80 rfl (fun fin _ hfin => a5 (aZ (ad (bZ (cs := iv .i64 16 f) rfl rfl) rfl ?_)))
 rintro _ w1 ⟨b1, rfl, eb1, hb1, k1, z1⟩
 replace hB := hB.trans k1
 clear eb1 z1
 refine ad (aj bA) rfl ?_
 rintro _ w2 ⟨b2, rfl, eb2, hb2, k2, z2⟩
 have ge_b2 : w.heap.size ≤ b2 := by have := hB.size; omega
 obtain ⟨hB, hb1⟩ := bL k2 hB hb1
 clear eb2 z2
 replace hb2 : Bk w2 b2 65 (iv .i64 16 (fun _ => 0)) := by rw [iv, bE]; exact hb2
 refine a6 (a5 (aZ (a7 (aa (cs' := iv .i64 16 f) bj bA rfl hb1 rfl rfl) rfl (ad (a8 (vs := [_, _, _, _]) rfl (gV _ _ 255 11 5 hf (by decide) _)) rfl ?_))))
 rintro _ w3 ⟨hh1, rfl, E1, k3⟩
 obtain ⟨hB, hb2⟩ := bL k3 hB hb2
 rw [pe_inv] at E1
 replace E1 : RN hh1 (inv a) := E1
 refine ae (bh (vs := iv .i64 16 hh1) bA rfl rfl rfl ai hb2 rfl) ?_
 rintro _ w4 ⟨hb3, k4, z3⟩
 replace hB := hB.new k4 (nw ge_b2)
 clear z3
 refine a6 (bW hfin Tryz.results80 rfl (ak bj bA hb3 rfl)  ?_)
 exact ⟨hh1, rfl, E1, hB⟩
theorem lY (w : World) : Rets Tryz.prog 116 [] w (fun v w' => ∃ r, v = .agg (iv .i64 16 r).toArray ∧ RN r (fpow 2 14474011154664524427946373126085988481658748083205070504932198000989141204987) ∧ Keep [] w w') := by
 have hB : Keep [] w w := Keep.refl _ _
 refine ac Tryz.func116 rfl (by decide) Tryz.ntmps116 rfl (fun fin _ hfin => a5 (aZ (ad (aj bA) rfl ?_)))
 rintro _ w1 ⟨b1, rfl, eb1, hb1, k1, z1⟩
 have ge_b1 : w.heap.size ≤ b1 := by have := hB.size; omega
 replace hB := hB.trans k1
 clear eb1 z1
 replace hb1 : Bk w1 b1 65 (iv .i64 16 (fun _ => 0)) := by rw [iv, bE]; exact hb1
 refine a6 (a5 (aZ (ad (a8 (vs := [_]) rfl (cv 2 (by decide) _)) rfl ?_)))
 rintro _ w2 ⟨hh1, rfl, E1, C1, k2⟩
 obtain ⟨hB, hb1⟩ := bL k2 hB hb1
 replace E1 : RN hh1 2 := fp_two ▸ E1
 refine ad (a8 (vs := [_, _, _, _]) rfl (gV _ _ 253 3 3 E1 (by decide) _)) rfl ?_
 rintro _ w3 ⟨hh2, rfl, E2, k3⟩
 obtain ⟨hB, hb1⟩ := bL k3 hB hb1
 rw [pe_m1] at E2
 replace E2 : RN hh2 (fpow 2 14474011154664524427946373126085988481658748083205070504932198000989141204987) := E2
 refine ae (bh (vs := iv .i64 16 hh2) bA rfl rfl rfl ai hb1 rfl) ?_
 rintro _ w4 ⟨hb2, k4, z2⟩
 replace hB := hB.new k4 (nw ge_b1)
 clear z2
 refine a6 (bW hfin Tryz.results116 rfl (ak bj bA hb2 rfl)  ?_)
 exact ⟨hh2, rfl, E2, hB⟩
theorem qN (f g : Nat → Int) (a b : Fp) (hf : RN f a) (hg : RN g b) (w : World) : Rets Tryz.prog 100 [.agg (iv .i64 16 f).toArray, .agg (iv .i64 16 g).toArray] w (fun v w' => ∃ r, v = .agg (iv .i64 16 r).toArray ∧ RN r (if a * a = b then a else a * fpow 2 14474011154664524427946373126085988481658748083205070504932198000989141204987) ∧ Keep [] w w') := by
 have hB : Keep [] w w := Keep.refl _ _
 refine ac Tryz.func100 rfl (by decide) Tryz.ntmps100 rfl (fun fin _ hfin => a5 (aZ (ad (bZ (cs := iv .i64 16 f) rfl rfl) rfl ?_)))
 rintro _ w1 ⟨b1, rfl, eb1, hb1, k1, z1⟩
 replace hB := hB.trans k1
 clear eb1 z1
 refine ad (bZ (cs := iv .i64 16 g) rfl rfl) rfl ?_
 rintro _ w2 ⟨b2, rfl, eb2, hb2, k2, z2⟩
 obtain ⟨hB, hb1⟩ := bL k2 hB hb1
 clear eb2 z2
 refine ad (aj bA) rfl ?_
 rintro _ w3 ⟨b3, rfl, eb3, hb3, k3, z3⟩
 have ge_b3 : w.heap.size ≤ b3 := by have := hB.size; omega
 have ne_b1_b3 : b1 ≠ b3 := by have := hb1.lt; omega
 obtain ⟨hB, hb1, hb2⟩ := cc k3 hB hb1 hb2
 clear eb3 z3
 replace hb3 : Bk w3 b3 65 (iv .i64 16 (fun _ => 0)) := by rw [iv, bE]; exact hb3
 refine a6 (a5 (a5 (bc 5 [0, 1, 3, 2, 4] [2, 4] [] mixed [(2, _), (3, _), (4, _)] ⟨rfl, rfl, rfl, trivial⟩ (by decide +kernel) rfl (fun w4 k4 => ?_))))
 obtain ⟨hB, hb1, hb2, hb3⟩ := dE k4 hB hb1 hb2 hb3
 refine am 2 rfl rfl rfl rfl (fun W' kk => aa (cs' := iv .i64 16 f) bj bA rfl (Bk.sD hb1 kk) rfl rfl) (am 2 rfl rfl rfl rfl (fun W' kk => aa (cs' := iv .i64 16 f) bj bA rfl (Bk.sD hb1 kk) rfl rfl) (am 3 rfl rfl rfl rfl (fun W' kk => aa (cs' := iv .i64 16 g) bj bA rfl (Bk.sD hb2 kk) rfl rfl) (bq [(5, _), (6, _)] rfl rfl ⟨rfl, rfl, trivial⟩ rfl (a8 (vs := [_, _]) rfl (bp _ _ _ _ hf hf _)) ?_)))
 rintro _ w5 ⟨hh1, rfl, E1, k5⟩
 refine ⟨k5, ?_⟩
 obtain ⟨hB, hb1, hb3⟩ := cc k5 hB hb1 hb3
 refine bq [(7, _), (8, _)] rfl rfl ⟨rfl, rfl, trivial⟩ rfl (a8 (vs := [_, _]) rfl (fH _ _ _ _ E1 hg _)) ?_
 rintro _ w6 ⟨rfl, k6⟩
 refine ⟨k6, ?_⟩
 obtain ⟨hB, hb1, hb3⟩ := cc k6 hB hb1 hb3
 refine bx (a6 (ba rfl (fun hc1 => ?_) (fun hc1 => ?_)))
 ·
  refine a5 (aZ (a7 (aa (cs' := iv .i64 16 f) bj bA rfl hb1 rfl rfl) rfl (ae (bh (vs := iv .i64 16 f) bA rfl rfl rfl ai hb3 rfl) ?_)))
  rintro _ w7 ⟨hb4, k7, z4⟩
  replace hb1 := hb1.keep k7 (nm ne_b1_b3)
  replace hB := hB.new k7 (nw ge_b3)
  clear z4
  refine a6 (bW hfin Tryz.results100 rfl (ak bj bA hb4 rfl)  ?_)
  exact ⟨f, rfl, (by rw [if_pos hc1]; exact hf), hB⟩
 ·
  refine ag (a5 (bc 2 [0, 1] [1] [] mixed [(2, _), (4, _)] ⟨rfl, rfl, trivial⟩ (by decide +kernel) rfl (fun w8 k8 => ?_)))
  obtain ⟨hB, hb1, hb3⟩ := cc k8 hB hb1 hb3
  refine am 2 rfl rfl rfl rfl (fun W' kk => aa (cs' := iv .i64 16 f) bj bA rfl (Bk.sD hb1 kk) rfl rfl) (bq [] rfl rfl trivial rfl (a8 (vs := []) rfl (lY _)) ?_)
  rintro _ w9 ⟨hh2, rfl, E2, k9⟩
  refine ⟨k9, ?_⟩
  obtain ⟨hB, hb3⟩ := bL k9 hB hb3
  refine bx (ad (a8 (vs := [_, _]) rfl (bp _ _ _ _ hf E2 _)) rfl ?_)
  rintro _ w10 ⟨hh3, rfl, E3, k10⟩
  obtain ⟨hB, hb3⟩ := bL k10 hB hb3
  refine ae (bh (vs := iv .i64 16 hh3) bA rfl rfl rfl ai hb3 rfl) ?_
  rintro _ w11 ⟨hb5, k11, z5⟩
  replace hB := hB.new k11 (nw ge_b3)
  clear z5
  refine a6 (bW hfin Tryz.results100 rfl (ak bj bA hb5 rfl)  ?_)
  exact ⟨hh3, rfl, (by rw [if_neg hc1]; exact E3), hB⟩
theorem mB {x : Fp} {z : Int} {b : Bool} (hz : Eqn z (gb (fpB x) 0 % 2)) (h : decide (z = 1) = b) : decide (bits .and .u8 (gb (fpB x) 0) 1 = 1) = b := by
 have g := cK (fpB x) 0
 rw [cL (k := .u8) (a := 0) (b := 255) 1 (c := 1) (m := 2) g rfl rfl rfl rfl rfl rfl]
 unfold Eqn at hz; rw [← hz]; exact h
theorem mV (f g : Nat → Int) (a b : Fp) (hf : RN f a) (hg : RN g b) (w : World) : Rets Tryz.prog 75 [.agg (iv .i64 16 f).toArray, .agg (iv .i64 16 g).toArray] w (fun v w' => ∃ r, v = .tuple #[.agg (iv .i64 16 r).toArray, .bool (rootOk a b)] ∧ RN r (rootF a b) ∧ Keep [] w w') := by
  have hB : Keep [] w w := Keep.refl _ _
  refine ac Tryz.func75 rfl (by decide) Tryz.ntmps75 rfl (fun fin _ hfin => a5 (aZ (ad (bZ (cs := iv .i64 16 f) rfl rfl) rfl ?_)))
  rintro _ w1 ⟨b1, rfl, eb1, hb1, k1, z1⟩
  replace hB := hB.trans k1
  clear eb1 z1
  refine ad (bZ (cs := iv .i64 16 g) rfl rfl) rfl ?_
  rintro _ w2 ⟨b2, rfl, eb2, hb2, k2, z2⟩
  obtain ⟨hB, hb1⟩ := bL k2 hB hb1
  clear eb2 z2
  refine ad (aj bA) rfl ?_
  rintro _ w3 ⟨b3, rfl, eb3, hb3, k3, z3⟩
  have ge_b3 : w.heap.size ≤ b3 := by have := hB.size; omega
  obtain ⟨hB, hb1, hb2⟩ := cc k3 hB hb1 hb2
  clear eb3 z3
  replace hb3 : Bk w3 b3 65 (iv .i64 16 (fun _ => 0)) := by rw [iv, bE]; exact hb3
  refine oga rfl rfl (a6 (a5 ?_))
  have gs1 := hB.size
  have lt1 := hb1.lt
  have lt2 := hb2.lt
  have lt3 := hb3.lt
  refine bO 5 [0, 1, 2, 3] [2, 3] [] [(4, 65, List.replicate 16 (.int .i64 0))] mixed [(2, _), (3, _), (4, _)] ⟨rfl, rfl, rfl, trivial⟩ (by decide +kernel) (by decide) (by decide) ?_ (fun x hx => by cases hx) rfl (fun w4 k4 => ?_)
  · simp only [List.forall_mem_cons]; exact ⟨⟨_, _, _, _, _, _, rfl, bA⟩, fun q hq => by cases hq⟩
  obtain ⟨hB, hb1, hb2, hb3⟩ := dE k4 hB hb1 hb2 hb3
  refine al 2 rfl rfl rfl rfl (fun W' kk => aa (cs' := iv .i64 16 f) bj bA rfl (Bk.sD hb1 kk) rfl rfl) (al 3 rfl rfl rfl rfl (fun W' kk => aa (cs' := iv .i64 16 g) bj bA rfl (Bk.sD hb2 kk) rfl rfl) (bm [(9, _)] rfl rfl ⟨rfl, trivial⟩ rfl (fun w6 k6 => ?_)))
  obtain ⟨hB, hb1, hb2, hb3⟩ := dE k6 hB hb1 hb2 hb3
  refine (a8 (vs := [_]) rfl (ei _ _ hg _)).mono ?_
  rintro _ w5 ⟨hh1, rfl, E1, k5⟩
  refine ⟨k5, nox, ?_⟩
  obtain ⟨hB, hb1, hb2, hb3⟩ := dE k5 hB hb1 hb2 hb3
  refine bm [(8, _), (10, _)] rfl rfl ⟨rfl, rfl, trivial⟩ rfl (fun w8 k8 => ?_)
  obtain ⟨hB, hb1, hb2, hb3⟩ := dE k8 hB hb1 hb2 hb3
  refine (a8 (vs := [_, _]) rfl (bp _ _ _ _ hf E1 _)).mono ?_
  rintro _ w7 ⟨hh2, rfl, E2, k7⟩
  refine ⟨k7, nox, ?_⟩
  obtain ⟨hB, hb1, hb2, hb3⟩ := dE k7 hB hb1 hb2 hb3
  refine cC (fun w9 k9 => ?_)
  obtain ⟨hB, hb1, hb2, hb3⟩ := dE k9 hB hb1 hb2 hb3
  intro b4 eb4 lb1 hb4 ds1 sp1
  have ge_b4 : w.heap.size ≤ b4 := Nat.le_trans gs1 eb4
  have ne_b1_b4 : b1 ≠ b4 := Nat.ne_of_lt (Nat.lt_of_lt_of_le lt1 eb4)
  have ne_b2_b4 : b2 ≠ b4 := Nat.ne_of_lt (Nat.lt_of_lt_of_le lt2 eb4)
  have ne_b3_b4 : b3 ≠ b4 := Nat.ne_of_lt (Nat.lt_of_lt_of_le lt3 eb4)
  replace hb4 : Bk w9 b4 65 (iv .i64 16 (fun _ => 0)) := by rw [iv, bE]; exact hb4
  refine bP (ae (bh (vs := iv .i64 16 hh2) bA rfl rfl rfl ai hb4 rfl) ?_)
  rintro _ w10 ⟨hb5, k10, z4⟩
  replace hb1 := hb1.keep k10 (nm ne_b1_b4)
  replace hb2 := hb2.keep k10 (nm ne_b2_b4)
  replace hb3 := hb3.keep k10 (nm ne_b3_b4)
  replace hB := hB.new k10 (nw ge_b4)
  clear z4
  refine a6 (a5 (aZ (a7 (aa (cs' := iv .i64 16 hh2) bj bA rfl hb5 rfl rfl) rfl (ad (a8 (vs := [_, _, _, _]) rfl (gV _ _ 252 14 4 E2 (by decide) _)) rfl ?_))))
  rintro _ w11 ⟨hh3, rfl, E3, k11⟩
  obtain ⟨hB, hb1, hb2, hb3, hb5⟩ := du k11 hB hb1 hb2 hb3 hb5
  rw [pe_root] at E3
  replace E3 : RN hh3 (fpow (a * (inv b)) 7237005577332262213973186563042994240829374041602535252466099000494570602494) := E3
  refine ad (aj bA) rfl ?_
  rintro _ w12 ⟨b5, rfl, eb5, hb6, k12, z5⟩
  have ge_b5 : w.heap.size ≤ b5 := by have := hB.size; omega
  have ne_b1_b5 : b1 ≠ b5 := by have := hb1.lt; omega
  have ne_b2_b5 : b2 ≠ b5 := by have := hb2.lt; omega
  have ne_b3_b5 : b3 ≠ b5 := by have := hb3.lt; omega
  have ne_b4_b5 : b4 ≠ b5 := by have := hb5.lt; omega
  obtain ⟨hB, hb1, hb2, hb3, hb5⟩ := du k12 hB hb1 hb2 hb3 hb5
  clear eb5 z5
  replace hb6 : Bk w12 b5 65 (iv .i64 16 (fun _ => 0)) := by rw [iv, bE]; exact hb6
  refine ae (bh (vs := iv .i64 16 hh3) bA rfl rfl rfl ai hb6 rfl) ?_
  rintro _ w13 ⟨hb7, k13, z6⟩
  replace hb1 := hb1.keep k13 (nm ne_b1_b5)
  replace hb2 := hb2.keep k13 (nm ne_b2_b5)
  replace hb3 := hb3.keep k13 (nm ne_b3_b5)
  replace hb5 := hb5.keep k13 (nm ne_b4_b5)
  replace hB := hB.new k13 (nw ge_b5)
  clear z6
  refine a6 (a5 (aZ (a7 (aa (cs' := iv .i64 16 hh3) bj bA rfl hb7 rfl rfl) rfl (a7 (aa (cs' := iv .i64 16 hh2) bj bA rfl hb5 rfl rfl) rfl (ad (a8 (vs := [_, _]) rfl (qN _ _ _ _ E3 E2 _)) rfl ?_)))))
  rintro _ w14 ⟨hh4, rfl, E4, k14⟩
  obtain ⟨hB, hb1, hb2, hb3, hb5, hb7⟩ := dq k14 hB hb1 hb2 hb3 hb5 hb7
  replace E4 : RN hh4 (cu (a * (inv b))) := E4
  refine ae (bh (vs := iv .i64 16 hh4) bA rfl rfl rfl ai hb7 rfl) ?_
  rintro _ w15 ⟨hb8, k15, z7⟩
  replace hb1 := hb1.keep k15 (nm ne_b1_b5)
  replace hb2 := hb2.keep k15 (nm ne_b2_b5)
  replace hb3 := hb3.keep k15 (nm ne_b3_b5)
  replace hb5 := hb5.keep k15 (nm ne_b4_b5)
  replace hB := hB.new k15 (nw ge_b5)
  clear z7
  refine a6 (a5 (a5 (bO 17 [0, 1, 3, 2, 4, 5, 6, 7, 8, 9, 10, 11, 12, 13, 14, 15, 16] [2, 4, 8, 9, 12, 13] [] [] mixed [(7, _), (6, _), (3, _), (2, _), (4, _)] ⟨rfl, rfl, rfl, rfl, rfl, trivial⟩ (by decide +kernel) (by decide) (by decide) ?_ (fun x hx => by cases hx) rfl (fun w16 k16 => ?_))))
  · intro q hq; cases hq
  obtain ⟨hB, hb1, hb2, hb3, hb5, hb8⟩ := dq k16 hB hb1 hb2 hb3 hb5 hb8
  refine al 7 rfl rfl rfl rfl (fun W' kk => aa (cs' := iv .i64 16 hh4) bj bA rfl (Bk.sD hb8 kk) rfl rfl) (al 7 rfl rfl rfl rfl (fun W' kk => aa (cs' := iv .i64 16 hh4) bj bA rfl (Bk.sD hb8 kk) rfl rfl) (al 6 rfl rfl rfl rfl (fun W' kk => aa (cs' := iv .i64 16 hh2) bj bA rfl (Bk.sD hb5 kk) rfl rfl) (bm [(17, _), (18, _)] rfl rfl ⟨rfl, rfl, trivial⟩ rfl (fun w18 k18 => ?_))))
  obtain ⟨hB, hb1, hb2, hb3, hb8⟩ := du k18 hB hb1 hb2 hb3 hb8
  refine (a8 (vs := [_, _]) rfl (bp _ _ _ _ E4 E4 _)).mono ?_
  rintro _ w17 ⟨hh5, rfl, E5, k17⟩
  refine ⟨k17, nox, ?_⟩
  obtain ⟨hB, hb1, hb2, hb3, hb8⟩ := du k17 hB hb1 hb2 hb3 hb8
  refine bm [(19, _), (20, _)] rfl rfl ⟨rfl, rfl, trivial⟩ rfl (fun w20 k20 => ?_)
  obtain ⟨hB, hb1, hb2, hb3, hb8⟩ := du k20 hB hb1 hb2 hb3 hb8
  refine (a8 (vs := [_, _]) rfl (fH _ _ _ _ E5 E2 _)).mono ?_
  rintro _ w19 ⟨rfl, k19⟩
  refine ⟨k19, nox, ?_⟩
  obtain ⟨hB, hb1, hb2, hb3, hb8⟩ := du k19 hB hb1 hb2 hb3 hb8
  refine al 21 rfl rfl rfl rfl (fun W' kk => fF rfl) (cA 22 rfl rfl rfl rfl rfl (kP 23 false rfl (fun c1 hgc1 => eW [(3, _), (23, _)] [(3, _)] rfl rfl ⟨rfl, rfl, trivial⟩ rfl (dT rfl rfl rfl hgc1) ⟨fS rfl, trivial⟩ (fun hw1 => (fun W' kk => aa (cs' := iv .i64 16 g) bj bA rfl (Bk.sD hb2 kk) rfl rfl)) (fD (V := .agg (iv .i64 16 (fun _ => 0)).toArray) [(23, _)] [] rfl rfl ⟨rfl, trivial⟩ rfl (dT rfl rfl rfl hgc1) trivial rfl (fun W1 kk hw2 => (a8 (vs := [_]) rfl (eL _)).mono (by rintro _ w21 ⟨rfl, k21⟩; exact ⟨rfl, k21⟩)) (fun w22 k22 => ?_)))))
  obtain ⟨hB, hb1, hb3, hb8⟩ := dE k22 hB hb1 hb3 hb8
  refine fD (V := .bool (decide (b = 0))) [(23, _), (24, _), (25, _)] [(24, _), (25, _)] rfl rfl ⟨rfl, rfl, rfl, trivial⟩ rfl (dT rfl rfl rfl hgc1) ⟨dU rfl, dU rfl, trivial⟩ rfl (fun W1 kk hw3 => (a8 (vs := [_, _]) rfl (fH _ _ _ _ hg fx _)).mono (by rintro _ w23 ⟨rfl, k23⟩; exact ⟨rfl, k23⟩)) (fun w24 k24 => ?_)
  obtain ⟨hB, hb1, hb3, hb8⟩ := dE k24 hB hb1 hb3 hb8
  refine eW [(23, _), (26, _)] [(26, _)] rfl rfl ⟨rfl, rfl, trivial⟩ rfl (dT rfl rfl rfl hgc1) ⟨dU rfl, trivial⟩ (fun hw4 => (fun W' kk => bb rfl)) (i5 27 true rfl (fun c2 hgc2 => eW [(2, _), (27, _)] [(2, _)] rfl rfl ⟨rfl, rfl, trivial⟩ rfl (gL rfl rfl rfl hgc2) ⟨fS rfl, trivial⟩ (fun hw5 => (fun W' kk => aa (cs' := iv .i64 16 f) bj bA rfl (Bk.sD hb1 kk) rfl rfl)) (fD (V := .agg (iv .i64 16 (fun _ => 0)).toArray) [(27, _)] [] rfl rfl ⟨rfl, trivial⟩ rfl (gL rfl rfl rfl hgc2) trivial rfl (fun W1 kk hw6 => (a8 (vs := [_]) rfl (eL _)).mono (by rintro _ w25 ⟨rfl, k25⟩; exact ⟨rfl, k25⟩)) (fun w26 k26 => ?_))))
  obtain ⟨hB, hb3, hb8⟩ := cc k26 hB hb3 hb8
  refine fD (V := .bool (decide (a = 0))) [(27, _), (28, _), (29, _)] [(28, _), (29, _)] rfl rfl ⟨rfl, rfl, rfl, trivial⟩ rfl (gL rfl rfl rfl hgc2) ⟨dU rfl, dU rfl, trivial⟩ rfl (fun W1 kk hw7 => (a8 (vs := [_, _]) rfl (fH _ _ _ _ hf fx _)).mono (by rintro _ w27 ⟨rfl, k27⟩; exact ⟨rfl, k27⟩)) (fun w28 k28 => ?_)
  obtain ⟨hB, hb3, hb8⟩ := cc k28 hB hb3 hb8
  refine eW [(27, _), (30, _)] [(30, _)] rfl rfl ⟨rfl, rfl, trivial⟩ rfl (gL rfl rfl rfl hgc2) ⟨dU rfl, trivial⟩ (fun hw8 => (fun W' kk => fF rfl)) (i3 (dj := 0) [(23, _), (27, _), (31, _)] rfl rfl ⟨rfl, rfl, rfl, trivial⟩ rfl (dT rfl rfl rfl hgc1) (dU rfl) rfl hgc2 rfl (cm 23 32 rfl rfl rfl rfl rfl (fun W' kk => gO rfl rfl hgc1) (cC (fun w29 k29 => ?_))))
  obtain ⟨hB, hb3, hb8⟩ := cc k29 hB hb3 hb8
  refine bP (a6 (a9 [(7, _), (4, _), (33, _)] ⟨rfl, rfl, rfl, trivial⟩ (dV rfl (fun hc1 => ?_) (fun hc1 => ?_))))
  · -- yes
    have hd1 := hc1
    try (simp only [Bool.and_eq_true, Bool.or_eq_true, decide_eq_true_eq, Bool.and_eq_false_iff, Bool.or_eq_false_iff, decide_eq_false_iff_not, Bool.not_eq_true', Bool.not_eq_false', Bool.not_eq_true, Bool.not_eq_false, ne_eq, Decidable.not_not] at hd1)
    refine a5 (aZ (ad (a8 (vs := [_]) rfl (eL _)) rfl ?_))
    rintro _ w30 ⟨rfl, k30⟩
    obtain ⟨hB, hb3, hb8⟩ := cc k30 hB hb3 hb8
    refine ae (bh (vs := iv .i64 16 (fun _ => 0)) bA rfl rfl rfl ai hb3 rfl) ?_
    rintro _ w31 ⟨hb9, k31, z8⟩
    replace hb8 := hb8.keep k31 (nm (Ne.symm ne_b3_b5))
    replace hB := hB.new k31 (nw ge_b3)
    clear z8
    refine oga rfl rfl (a6 (cQ hfin Tryz.results75 rfl (ak bj bA hb9 rfl) rfl ?_))
    exact ⟨(fun _ => 0), by rw [fw (rfl : cu (a * inv b) = _) hc1], by rw [kF (fw (rfl : cu (a * inv b) = _) hc1)]; exact fx, hB⟩
  · -- no
    have hd2 := hc1
    try (simp only [Bool.and_eq_true, Bool.or_eq_true, decide_eq_true_eq, Bool.and_eq_false_iff, Bool.or_eq_false_iff, decide_eq_false_iff_not, Bool.not_eq_true', Bool.not_eq_false', Bool.not_eq_true, Bool.not_eq_false, ne_eq, Decidable.not_not] at hd2)
    refine ag (a5 (a5 (aZ (a7 (aa (cs' := iv .i64 16 hh4) bj bA rfl hb8 rfl rfl) rfl (ad (a8 (vs := [_]) rfl (eE _ _ E4 _)) rfl ?_)))))
    rintro v1 w32 ⟨o1, k32⟩
    obtain ⟨hB, hb3, hb8⟩ := cc k32 hB hb3 hb8
    refine a7 (bk aA cf rfl o1.rd rfl (by rw [bG]; decide)) rfl (a7 (dI gg rfl o1.rd (by rw [bG]; decide)) rfl (an (e' := (gb (fpB (cu (a * (inv b)))) 0) % 2) (lo := 0) (hi := 1) (fL rfl rfl ⟨(cK _ _).1, by decide⟩) (rfl) (In.wk (bY _ (by decide)) rfl) rfl (fun z9 h1 r1 => a7 (fW rfl rfl) rfl (a6 (ba rfl (fun hc2 => ?_) (fun hc2 => ?_))))))
    · -- yes
      refine bc 2 [1, 0] [0] [] mixed [(7, _), (4, _)] ⟨rfl, rfl, trivial⟩ (by decide +kernel) rfl (fun w33 k33 => ?_)
      obtain ⟨hB, hb3, hb8⟩ := cc k33 hB hb3 hb8
      refine am 7 rfl rfl rfl rfl (fun W' kk => aa (cs' := iv .i64 16 hh4) bj bA rfl (Bk.sD hb8 kk) rfl rfl) (bq [] rfl rfl trivial rfl (a8 (vs := [_]) rfl (eL _)) ?_)
      rintro _ w34 ⟨rfl, k34⟩
      refine ⟨k34, ?_⟩
      obtain ⟨hB, hb3, hb8⟩ := cc k34 hB hb3 hb8
      refine bx (ad (a8 (vs := [_, _]) rfl (eD _ _ _ _ fx E4 _)) rfl ?_)
      rintro _ w35 ⟨hh6, rfl, E6, k35⟩
      obtain ⟨hB, hb3, hb8⟩ := cc k35 hB hb3 hb8
      refine ae (bh (vs := iv .i64 16 hh6) bA rfl rfl rfl ai hb8 rfl) ?_
      rintro _ w36 ⟨hb10, k36, z10⟩
      replace hb3 := hb3.keep k36 (nm ne_b3_b5)
      replace hB := hB.new k36 (nw ge_b5)
      clear z10
      refine a6 (a5 (aZ (a7 (aa (cs' := iv .i64 16 hh6) bj bA rfl hb10 rfl rfl) rfl (ae (bh (vs := iv .i64 16 hh6) bA rfl rfl rfl ai hb3 rfl) ?_))))
      rintro _ w37 ⟨hb11, k37, z11⟩
      replace hB := hB.new k37 (nw ge_b3)
      clear z11
      refine oga rfl rfl (a6 (cQ hfin Tryz.results75 rfl (ak bj bA hb11 rfl) rfl ?_))
      exact ⟨hh6, by rw [eB (rfl : cu (a * inv b) = _) hc1], by rw [iE (eB (rfl : cu (a * inv b) = _) hc1) (rfl : cu (a * inv b) = _) (of_decide_eq_true (mB h1 (decide_eq_true hc2)))]; exact E6, hB⟩
    · -- no
      refine ag (a5 (aZ (a7 (aa (cs' := iv .i64 16 hh4) bj bA rfl hb8 rfl rfl) rfl (ae (bh (vs := iv .i64 16 hh4) bA rfl rfl rfl ai hb3 rfl) ?_))))
      rintro _ w38 ⟨hb12, k38, z12⟩
      replace hB := hB.new k38 (nw ge_b3)
      clear z12
      refine oga rfl rfl (a6 (cQ hfin Tryz.results75 rfl (ak bj bA hb12 rfl) rfl ?_))
      exact ⟨hh4, by rw [eB (rfl : cu (a * inv b) = _) hc1], by rw [gW (eB (rfl : cu (a * inv b) = _) hc1) (rfl : cu (a * inv b) = _) (of_decide_eq_false (mB h1 (decide_eq_false hc2)))]; exact E4, hB⟩
end Go.Proofs.YtllmbkmghmmhfaaGreatDoor.W
namespace Go.Proofs.YtllmbkmghmmhfaaGreatDoor.W
open Go Go.Eng Go.Byt Go.Fld Go.Ed
def Rep (X Y Z T : Fp) (a : Pt) : Prop := Z ≠ 0 ∧ X = a.1 * Z ∧ Y = a.2 * Z ∧ T = a.1 * a.2 * Z
theorem l3 {a b : Pt} {X1 Y1 Z1 T1 X2 Y2 Z2 T2 : Fp} (ha : OnP a) (hb : OnP b) (h1 : Rep X1 Y1 Z1 T1 a) (h2 : Rep X2 Y2 Z2 T2 b) :
   Rep (((X1 + Y1) * (X2 + Y2) - X1 * X2 - Y1 * Y2) * (Z1 * Z2 - T1 * T2 * d)) ((Z1 * Z2 + T1 * T2 * d) * (Y1 * Y2 + X1 * X2)) ((Z1 * Z2 - T1 * T2 * d) * (Z1 * Z2 + T1 * T2 * d)) (((X1 + Y1) * (X2 + Y2) - X1 * X2 - Y1 * Y2) * (Y1 * Y2 + X1 * X2)) (padd a b) := by
 obtain ⟨n1, rfl, rfl, rfl⟩ := h1
 obtain ⟨n2, rfl, rfl, rfl⟩ := h2
 have f1 := rO ha hb
 have f2 := rN ha hb
 obtain ⟨x1, y1⟩ := a
 obtain ⟨x2, y2⟩ := b
 simp only at f1 f2 ⊢
 have hF : Z1 * Z2 - x1 * y1 * Z1 * (x2 * y2 * Z2) * d = (Z1 * Z2) * (1 - d * x1 * x2 * y1 * y2) := by clear f1 f2; generalize d = e; grind -lia -linarith
 have hG : Z1 * Z2 + x1 * y1 * Z1 * (x2 * y2 * Z2) * d = (Z1 * Z2) * (1 + d * x1 * x2 * y1 * y2) := by clear f1 f2; generalize d = e; grind -lia -linarith
 have hE : (x1 * Z1 + y1 * Z1) * (x2 * Z2 + y2 * Z2) - x1 * Z1 * (x2 * Z2) - y1 * Z1 * (y2 * Z2) = (Z1 * Z2) * (x1 * y2 + y1 * x2) := by clear f1 f2; grind -lia -linarith
 have hH : y1 * Z1 * (y2 * Z2) + x1 * Z1 * (x2 * Z2) = (Z1 * Z2) * (y1 * y2 + x1 * x2) := by clear f1 f2; grind -lia -linarith
 obtain ⟨c1, c2, c3⟩ := qT (cd f1) (cd f2) hE hG hF hH rfl rfl rfl rfl rfl rfl
 refine ⟨?_, c1, c2, c3⟩
 rw [hF, hG]
 exact dR (dR (dR n1 n2) f2) (dR (dR n1 n2) f1)
theorem rep_of (x y : Fp) : Rep x y 1 (x * y) (x, y) := by
 refine ⟨kQ, ?_, ?_, ?_⟩ <;> (show _ = _ * (1 : Fp); grind -lia -linarith)
theorem rep_x {a : Pt} {X Y Z T : Fp} (h : Rep X Y Z T a) : X * inv Z = a.1 ∧ Y * inv Z = a.2 := by
 obtain ⟨n, rfl, rfl, rfl⟩ := h
 exact ⟨eN n, eN n⟩
def RPt (p : Nat → Int) (a : Pt) : Prop := ∃ X Y Z T, Rep X Y Z T a ∧ RN (atN p 0) X ∧ RN (atN p 16) Y ∧ RN (atN p 32) Z ∧ RN (atN p 48) T
theorem gk {f g : Nat → Int} {a : Fp} (h : RN f a) (e : ∀ j, j < 16 → g j = f j) : RN g a := by
 refine ⟨by rw [e 0 (by decide)]; exact h.1, fun i h1 h2 => by rw [e i h2]; exact h.2.1 i h1 h2, ?_⟩
 rw [ii (n := 16) e]; exact h.2.2
def j8 (f g h k : Nat → Int) : Nat → Int := fun i => bif Nat.blt i 16 then f i else bif Nat.blt i 32 then g (i - 16) else bif Nat.blt i 48 then h (i - 32) else k (i - 48)
theorem rm {a b : Nat} (h : a < b) : Nat.blt a b = true := Nat.ble_eq_true_of_le h
theorem jw {a b : Nat} (h : b ≤ a) : Nat.blt a b = false := by rw [← Bool.not_eq_true]; unfold Nat.blt; rw [Nat.ble_eq]; omega
theorem rg {f g h k : Nat → Int} {X Y Z T : Fp} (h1 : RN f X) (h2 : RN g Y) (h3 : RN h Z) (h4 : RN k T) : RN (atN (j8 f g h k) 0) X ∧ RN (atN (j8 f g h k) 16) Y ∧ RN (atN (j8 f g h k) 32) Z ∧ RN (atN (j8 f g h k) 48) T := by
 refine ⟨gk h1 fun j hj => ?_, gk h2 fun j hj => ?_, gk h3 fun j hj => ?_, gk h4 fun j hj => ?_⟩ <;> unfold atN j8
 · rw [rm (by omega), cond_true, Nat.zero_add]
 · rw [jw (by omega), rm (by omega), cond_false, cond_true, Nat.add_sub_cancel_left]
 · rw [jw (by omega), jw (by omega), rm (by omega), cond_false, cond_false, cond_true, Nat.add_sub_cancel_left]
 · rw [jw (by omega), jw (by omega), jw (by omega), cond_false, cond_false, cond_false, Nat.add_sub_cancel_left]
theorem rpt_mk {f g h k : Nat → Int} {X Y Z T : Fp} {a : Pt} (h1 : RN f X) (h2 : RN g Y) (h3 : RN h Z) (h4 : RN k T) (hr : Rep X Y Z T a) : RPt (j8 f g h k) a := by
 obtain ⟨c1, c2, c3, c4⟩ := rg h1 h2 h3 h4
 exact ⟨_, _, _, _, hr, c1, c2, c3, c4⟩
theorem ref_d : (0 - fp 121665) * inv (fp 121666) = d := by
 have h : fp 121666 ≠ 0 := by decide +kernel
 have e : d * fp 121666 = 0 - fp 121665 := by decide +kernel
 rw [← e]
 have := cd h
 generalize inv (fp 121666) = i at *
 generalize d = q
 grind -lia -linarith
def topB (xs : List UInt8) (i : Int) : Nat := (leI xs / 2 ^ i.toNat).toNat
def bitB (xs : List UInt8) (i : Int) : Bool := decide (leI xs / 2 ^ i.toNat % 2 = 1)
theorem pp {xs : List UInt8} (hx : xs.length = 32) : topB xs 256 = 0 := by
 have h := dp xs
 rw [hx] at h
 unfold topB
 rw [show (2 : Int) ^ (256 : Int).toNat = 256 ^ 32 by decide +kernel, Int.ediv_eq_zero_of_lt h.1 h.2]; rfl
theorem oI (xs : List UInt8) : topB xs 0 = (leI xs).toNat := by unfold topB; simp
theorem jc {xs : List UInt8} {i : Int} (h0 : 0 ≤ i) : topB xs i = topB xs (i + 1) * 2 + bif bitB xs i then 1 else 0 := by
 have hn : 0 ≤ leI xs := (dp xs).1
 have hp : 0 ≤ leI xs / 2 ^ i.toNat := Int.ediv_nonneg hn (Int.pow_nonneg (by decide))
 unfold topB bitB
 rw [show (i + 1).toNat = i.toNat + 1 by omega, Int.pow_succ, ← Int.ediv_ediv_of_nonneg (Int.pow_nonneg (by decide))]
 generalize leI xs / 2 ^ i.toNat = q at *
 by_cases h : q % 2 = 1
 · rw [decide_eq_true h, cond_true]; omega
 · rw [decide_eq_false h, cond_false]; omega
theorem shr8 (i : Int) (h0 : 0 ≤ i) (xs : List UInt8) (hl : i < 8 * xs.length) : gb xs (i / 8) / 2 ^ (i % 8).toNat % 2 = leI xs / 2 ^ i.toNat % 2 := by
 have hg := kU xs (i / 8).toNat (by omega)
 rw [show ((i / 8).toNat : Int) = i / 8 by omega] at hg
 have e : (2 : Int) ^ i.toNat = 256 ^ (i / 8).toNat * 2 ^ (i % 8).toNat := by
   rw [show (256 : Int) = 2 ^ 8 by decide, ← Int.pow_mul, ← Int.pow_add]; congr 1; omega
 have hn : 0 ≤ leI xs := (dp xs).1
 rw [e, ← Int.ediv_ediv_of_nonneg (Int.pow_nonneg (by decide)), ← hg]
 generalize leI xs / 256 ^ (i / 8).toNat = q
 have hm : i % 8 = 0 ∨ i % 8 = 1 ∨ i % 8 = 2 ∨ i % 8 = 3 ∨ i % 8 = 4 ∨ i % 8 = 5 ∨ i % 8 = 6 ∨ i % 8 = 7 := by omega
 rcases hm with h | h | h | h | h | h | h | h <;> rw [h] <;> simp <;> omega
theorem rn {xs : List UInt8} {i : Int} (hx : xs.length = 32) (h0 : 0 ≤ i) (h1 : i ≤ 255) {m b : Int} (hm : m = i % 8) (hb : Eqn b (gb xs (i / 8) / 2 ^ m.toNat % 2)) : decide (b = 1) = bitB xs i := by
 unfold Eqn at hb
 subst hm hb
 unfold bitB
 rw [shr8 i h0 xs (by omega)]
theorem pmul_F {a : Pt} (h : OnP a) {xs : List UInt8} {i : Int} (h0 : 0 ≤ i) (hb : bitB xs i = false) : padd (pmul (topB xs (i + 1)) a) (pmul (topB xs (i + 1)) a) = pmul (topB xs i) a := by
 rw [← dz h, jc h0, hb, cond_false]; congr 1; omega
theorem pmul_T {a : Pt} (h : OnP a) {xs : List UInt8} {i : Int} (h0 : 0 ≤ i) (hb : bitB xs i = true) : padd (padd (pmul (topB xs (i + 1)) a) (pmul (topB xs (i + 1)) a)) a = pmul (topB xs i) a := by
 rw [← dz h, jc h0, hb, cond_true, show topB xs (i + 1) * 2 + 1 = topB xs (i + 1) + topB xs (i + 1) + 1 by omega, dz h _ 1, l8]
theorem and127 {x : Int} (h : In x 0 255) : bits .and .u8 x 127 = bits .andNot .u8 x 128 := by
 have key : ∀ n : Fin 256, bits .and .u8 (n.val : Int) 127 = bits .andNot .u8 (n.val : Int) 128 := by decide +kernel
 unfold In at h
 have := key ⟨x.toNat, by omega⟩
 rwa [show ((x.toNat : Nat) : Int) = x by omega] at this
theorem rt {x : Int} (h : In x 0 255) : IntKind.u8.wrap (bits .and .u8 x 1 * 128) = IntKind.u8.wrap (x * 128) := by
 have key : ∀ n : Fin 256, IntKind.u8.wrap (bits .and .u8 (n.val : Int) 1 * 128) = IntKind.u8.wrap ((n.val : Int) * 128) := by decide +kernel
 unfold In at h
 have := key ⟨x.toNat, by omega⟩
 rwa [show ((x.toNat : Nat) : Int) = x by omega] at this
theorem nF : fpB (fp 4 * inv (fp 5)) = baseB := by
 rw [fV (show fp 5 * (⟨46316835694926478169428394003475163141307993866256225615783033603165251855960, by decide⟩ * inv (fp 4)) = 1 from by
   have h4 := cd (show fp 4 ≠ 0 by decide +kernel)
   have e : fp 5 * ⟨46316835694926478169428394003475163141307993866256225615783033603165251855960, by decide⟩ = fp 4 := by decide +kernel
   generalize inv (fp 4) = i at *
   generalize fp 4 = f at *
   rw [← h4, ← e]; grind -lia -linarith)]
 have h4 := cd (show fp 4 ≠ 0 by decide +kernel)
 have e : fp 4 * ((⟨46316835694926478169428394003475163141307993866256225615783033603165251855960, by decide⟩ : Fp) * inv (fp 4)) = ⟨46316835694926478169428394003475163141307993866256225615783033603165251855960, by decide⟩ := by
   generalize inv (fp 4) = i at *
   generalize fp 4 = f at *
   generalize (⟨46316835694926478169428394003475163141307993866256225615783033603165251855960, by decide⟩ : Fp) = y
   grind -lia -linarith
 rw [e]
 decide +kernel
end Go.Proofs.YtllmbkmghmmhfaaGreatDoor.W
namespace Go.Proofs.YtllmbkmghmmhfaaGreatDoor.W
open Go Go.Eng Go.Byt
open Go.Fld Go.Ed
theorem qR (w : World) : Rets Tryz.prog 34 [] w (fun v w' => ∃ r, v = .agg (iv .i64 16 r).toArray ∧ RN r d ∧ Keep [] w w') := by
 have hB : Keep [] w w := Keep.refl _ _
 refine ac Tryz.func34 rfl (by decide) Tryz.ntmps34 rfl (fun fin _ hfin => a5 (aZ (ad (aj bA) rfl ?_)))
 rintro _ w1 ⟨b1, rfl, eb1, hb1, k1, z1⟩
 have ge_b1 : w.heap.size ≤ b1 := by have := hB.size; omega
 replace hB := hB.trans k1
 clear eb1 z1
 replace hb1 : Bk w1 b1 65 (iv .i64 16 (fun _ => 0)) := by rw [iv, bE]; exact hb1
 refine a6 (a5 (aZ (ad (a8 (vs := [_]) rfl (cv 0 (by decide) _)) rfl ?_)))
 rintro _ w2 ⟨hh1, rfl, E1, C1, k2⟩
 obtain ⟨hB, hb1⟩ := bL k2 hB hb1
 replace E1 : RN hh1 0 := nh ▸ E1
 refine ad (a8 (vs := [_]) rfl (cv 121665 (by decide) _)) rfl ?_
 rintro _ w3 ⟨hh2, rfl, E2, C2, k3⟩
 obtain ⟨hB, hb1⟩ := bL k3 hB hb1
 refine ad (a8 (vs := [_, _]) rfl (eD _ _ _ _ E1 E2 _)) rfl ?_
 rintro _ w4 ⟨hh3, rfl, E3, k4⟩
 obtain ⟨hB, hb1⟩ := bL k4 hB hb1
 refine ad (a8 (vs := [_]) rfl (cv 121666 (by decide) _)) rfl ?_
 rintro _ w5 ⟨hh4, rfl, E4, C3, k5⟩
 obtain ⟨hB, hb1⟩ := bL k5 hB hb1
 refine ad (a8 (vs := [_]) rfl (ei _ _ E4 _)) rfl ?_
 rintro _ w6 ⟨hh5, rfl, E5, k6⟩
 obtain ⟨hB, hb1⟩ := bL k6 hB hb1
 refine ad (a8 (vs := [_, _]) rfl (bp _ _ _ _ E3 E5 _)) rfl ?_
 rintro _ w7 ⟨hh6, rfl, E6, k7⟩
 obtain ⟨hB, hb1⟩ := bL k7 hB hb1
 refine ae (bh (vs := iv .i64 16 hh6) bA rfl rfl rfl ai hb1 rfl) ?_
 rintro _ w8 ⟨hb2, k8, z2⟩
 replace hB := hB.new k8 (nw ge_b1)
 clear z2
 refine a6 (bW hfin Tryz.results34 rfl (ak bj bA hb2 rfl)  ?_)
 exact ⟨hh6, rfl, (by have e := E6; rw [ref_d] at e; exact e), hB⟩
theorem kG (f g : Nat → Int) (x y : Fp) (hf : RN f x) (hg : RN g y) (w : World) : Rets Tryz.prog 79 [.agg (iv .i64 16 f).toArray, .agg (iv .i64 16 g).toArray] w (fun v w' => ∃ r, v = .agg (iv .i64 64 r).toArray ∧ RPt r (x, y) ∧ Keep [] w w') := by
 have hB : Keep [] w w := Keep.refl _ _
 refine ac Tryz.func79 rfl (by decide) Tryz.ntmps79 rfl (fun fin _ hfin => a5 (aZ (ad (bZ (cs := iv .i64 16 f) rfl rfl) rfl ?_)))
 rintro _ w1 ⟨b1, rfl, eb1, hb1, k1, z1⟩
 replace hB := hB.trans k1
 clear eb1 z1
 refine ad (bZ (cs := iv .i64 16 g) rfl rfl) rfl ?_
 rintro _ w2 ⟨b2, rfl, eb2, hb2, k2, z2⟩
 obtain ⟨hB, hb1⟩ := bL k2 hB hb1
 clear eb2 z2
 refine ad (aj dQ) rfl ?_
 rintro _ w3 ⟨b3, rfl, eb3, hb3, k3, z3⟩
 have ge_b3 : w.heap.size ≤ b3 := by have := hB.size; omega
 obtain ⟨hB, hb1, hb2⟩ := cc k3 hB hb1 hb2
 clear eb3 z3
 replace hb3 : Bk w3 b3 67 (iv .i64 64 (fun _ => 0)) := by rw [iv, bE]; exact hb3
 refine a6 (a5 (bc 7 [0, 1, 3, 4, 2, 5, 6] [2, 5] [] mixed [(2, _), (3, _), (4, _)] ⟨rfl, rfl, rfl, trivial⟩ (by decide +kernel) rfl (fun w4 k4 => ?_)))
 obtain ⟨hB, hb1, hb2, hb3⟩ := dE k4 hB hb1 hb2 hb3
 refine am 2 rfl rfl rfl rfl (fun W' kk => aa (cs' := iv .i64 16 f) bj bA rfl (Bk.sD hb1 kk) rfl rfl) (am 3 rfl rfl rfl rfl (fun W' kk => aa (cs' := iv .i64 16 g) bj bA rfl (Bk.sD hb2 kk) rfl rfl) (am 2 rfl rfl rfl rfl (fun W' kk => aa (cs' := iv .i64 16 f) bj bA rfl (Bk.sD hb1 kk) rfl rfl) (am 3 rfl rfl rfl rfl (fun W' kk => aa (cs' := iv .i64 16 g) bj bA rfl (Bk.sD hb2 kk) rfl rfl) (bq [] rfl rfl trivial rfl (a8 (vs := [_]) rfl (cv 1 (by decide) _)) ?_))))
 rintro _ w5 ⟨hh1, rfl, E1, C1, k5⟩
 refine ⟨k5, ?_⟩
 obtain ⟨hB, hb3⟩ := bL k5 hB hb3
 replace E1 : RN hh1 1 := iK ▸ E1
 refine bq [(8, _), (9, _)] rfl rfl ⟨rfl, rfl, trivial⟩ rfl (a8 (vs := [_, _]) rfl (bp _ _ _ _ hf hg _)) ?_
 rintro _ w6 ⟨hh2, rfl, E2, k6⟩
 refine ⟨k6, ?_⟩
 obtain ⟨hB, hb3⟩ := bL k6 hB hb3
 refine kK [(5, _), (6, _), (7, _), (10, _)] rfl rfl ⟨rfl, rfl, rfl, rfl, trivial⟩ rfl (fun W' kk => dJ (idx := [0, 1, 2, 3]) (xs := [.tmp 5, .tmp 6, .tmp 7, .tmp 10]) (vs := [_, _, _, _]) (css := [iv .i64 16 f, iv .i64 16 g, iv .i64 16 hh1, iv .i64 16 hh2]) (out := iv .i64 64 (j8 f g hh1 hh2)) pl67 dQ rfl rfl ⟨rfl, rfl, rfl, rfl, trivial⟩ rfl rfl) (bx (ae (bh (vs := iv .i64 64 (j8 f g hh1 hh2)) dQ rfl rfl rfl ai hb3 rfl) ?_))
 rintro _ w7 ⟨hb4, k7, z4⟩
 replace hB := hB.new k7 (nw ge_b3)
 clear z4
 refine a6 (bW hfin Tryz.results79 rfl (ak gN dQ hb4 rfl)  ?_)
 exact ⟨_, rfl, rpt_mk hf hg E1 E2 (rep_of x y), hB⟩
theorem iD (w : World) : Rets Tryz.prog 70 [] w (fun v w' => ∃ r, v = .agg (iv .i64 64 r).toArray ∧ RPt r zero ∧ Keep [] w w') := by
 have hB : Keep [] w w := Keep.refl _ _
 refine ac Tryz.func70 rfl (by decide) Tryz.ntmps70 rfl (fun fin _ hfin => a5 (aZ (ad (aj dQ) rfl ?_)))
 rintro _ w1 ⟨b1, rfl, eb1, hb1, k1, z1⟩
 have ge_b1 : w.heap.size ≤ b1 := by have := hB.size; omega
 replace hB := hB.trans k1
 clear eb1 z1
 replace hb1 : Bk w1 b1 67 (iv .i64 64 (fun _ => 0)) := by rw [iv, bE]; exact hb1
 refine a6 (a5 (aZ (ad (a8 (vs := [_]) rfl (cv 0 (by decide) _)) rfl ?_)))
 rintro _ w2 ⟨hh1, rfl, E1, C1, k2⟩
 obtain ⟨hB, hb1⟩ := bL k2 hB hb1
 replace E1 : RN hh1 0 := nh ▸ E1
 refine ad (a8 (vs := [_]) rfl (cv 1 (by decide) _)) rfl ?_
 rintro _ w3 ⟨hh2, rfl, E2, C2, k3⟩
 obtain ⟨hB, hb1⟩ := bL k3 hB hb1
 replace E2 : RN hh2 1 := iK ▸ E2
 refine ad (a8 (vs := [_, _]) rfl (kG _ _ _ _ E1 E2 _)) rfl ?_
 rintro _ w4 ⟨hh3, rfl, E3, k4⟩
 obtain ⟨hB, hb1⟩ := bL k4 hB hb1
 refine ae (bh (vs := iv .i64 64 hh3) dQ rfl rfl rfl ai hb1 rfl) ?_
 rintro _ w5 ⟨hb2, k5, z2⟩
 replace hB := hB.new k5 (nw ge_b1)
 clear z2
 refine a6 (bW hfin Tryz.results70 rfl (ak gN dQ hb2 rfl)  ?_)
 exact ⟨hh3, rfl, E3, hB⟩
theorem mW (p q f : Nat → Int) (X1 Y1 Z1 T1 X2 Y2 Z2 T2 a : Fp) (hpX : RN (atN p 0) X1) (hpY : RN (atN p 16) Y1) (hpZ : RN (atN p 32) Z1) (hpT : RN (atN p 48) T1) (hqX : RN (atN q 0) X2) (hqY : RN (atN q 16) Y2) (hqZ : RN (atN q 32) Z2) (hqT : RN (atN q 48) T2) (hf : RN f a) (w : World) : Rets Tryz.prog 33 [.agg (iv .i64 64 p).toArray, .agg (iv .i64 64 q).toArray, .agg (iv .i64 16 f).toArray] w (fun v w' => ∃ r, v = .agg (iv .i64 64 r).toArray ∧ RN (atN r 0) (((X1 + Y1) * (X2 + Y2) - X1 * X2 - Y1 * Y2) * (Z1 * Z2 - T1 * T2 * a)) ∧ RN (atN r 16) ((Z1 * Z2 + T1 * T2 * a) * (Y1 * Y2 + X1 * X2)) ∧ RN (atN r 32) ((Z1 * Z2 - T1 * T2 * a) * (Z1 * Z2 + T1 * T2 * a)) ∧ RN (atN r 48) (((X1 + Y1) * (X2 + Y2) - X1 * X2 - Y1 * Y2) * (Y1 * Y2 + X1 * X2)) ∧ Keep [] w w') := by
  have hB : Keep [] w w := Keep.refl _ _
  refine ac Tryz.func33 rfl (by decide) Tryz.ntmps33 rfl (fun fin _ hfin => a5 (aZ (ad (bZ (cs := iv .i64 64 p) rfl rfl) rfl ?_)))
  rintro _ w1 ⟨b1, rfl, eb1, hb1, k1, z1⟩
  replace hB := hB.trans k1
  clear eb1 z1
  refine ad (bZ (cs := iv .i64 64 q) rfl rfl) rfl ?_
  rintro _ w2 ⟨b2, rfl, eb2, hb2, k2, z2⟩
  obtain ⟨hB, hb1⟩ := bL k2 hB hb1
  clear eb2 z2
  refine ad (bZ (cs := iv .i64 16 f) rfl rfl) rfl ?_
  rintro _ w3 ⟨b3, rfl, eb3, hb3, k3, z3⟩
  obtain ⟨hB, hb1, hb2⟩ := cc k3 hB hb1 hb2
  clear eb3 z3
  refine ad (aj dQ) rfl ?_
  rintro _ w4 ⟨b4, rfl, eb4, hb4, k4, z4⟩
  have ge_b4 : w.heap.size ≤ b4 := by have := hB.size; omega
  obtain ⟨hB, hb1, hb2, hb3⟩ := dE k4 hB hb1 hb2 hb3
  clear eb4 z4
  replace hb4 : Bk w4 b4 67 (iv .i64 64 (fun _ => 0)) := by rw [iv, bE]; exact hb4
  refine a6 (a5 (aZ (a7 (ax 0 aP rfl bA (by decide) rfl rfl) rfl (a7 (di bj bA rfl hb1 (by first | omega | (unfold In at *; omega))) rfl (a7 (ax 0 aP rfl bA (by decide) rfl rfl) rfl (a7 (di bj bA rfl hb2 (by first | omega | (unfold In at *; omega))) rfl (ad (a8 (vs := [_, _]) rfl (bp _ _ _ _ hpX hqX _)) rfl ?_)))))))
  rintro _ w5 ⟨hh1, rfl, E1, k5⟩
  obtain ⟨hB, hb1, hb2, hb3, hb4⟩ := du k5 hB hb1 hb2 hb3 hb4
  refine ad (aj bA) rfl ?_
  rintro _ w6 ⟨b5, rfl, eb5, hb5, k6, z5⟩
  have ge_b5 : w.heap.size ≤ b5 := by have := hB.size; omega
  have ne_b1_b5 : b1 ≠ b5 := by have := hb1.lt; omega
  have ne_b2_b5 : b2 ≠ b5 := by have := hb2.lt; omega
  have ne_b3_b5 : b3 ≠ b5 := by have := hb3.lt; omega
  have ne_b4_b5 : b4 ≠ b5 := by have := hb4.lt; omega
  obtain ⟨hB, hb1, hb2, hb3, hb4⟩ := du k6 hB hb1 hb2 hb3 hb4
  clear eb5 z5
  replace hb5 : Bk w6 b5 65 (iv .i64 16 (fun _ => 0)) := by rw [iv, bE]; exact hb5
  refine ae (bh (vs := iv .i64 16 hh1) bA rfl rfl rfl ai hb5 rfl) ?_
  rintro _ w7 ⟨hb6, k7, z6⟩
  replace hb1 := hb1.keep k7 (nm ne_b1_b5)
  replace hb2 := hb2.keep k7 (nm ne_b2_b5)
  replace hb3 := hb3.keep k7 (nm ne_b3_b5)
  replace hb4 := hb4.keep k7 (nm ne_b4_b5)
  replace hB := hB.new k7 (nw ge_b5)
  clear z6
  refine a6 (a5 (aZ (a7 (ax 16 aP rfl bA (by decide) rfl rfl) rfl (a7 (di bj bA rfl hb1 (by first | omega | (unfold In at *; omega))) rfl (a7 (ax 16 aP rfl bA (by decide) rfl rfl) rfl (a7 (di bj bA rfl hb2 (by first | omega | (unfold In at *; omega))) rfl (ad (a8 (vs := [_, _]) rfl (bp _ _ _ _ hpY hqY _)) rfl ?_)))))))
  rintro _ w8 ⟨hh2, rfl, E2, k8⟩
  obtain ⟨hB, hb1, hb2, hb3, hb4, hb6⟩ := dq k8 hB hb1 hb2 hb3 hb4 hb6
  refine ad (aj bA) rfl ?_
  rintro _ w9 ⟨b6, rfl, eb6, hb7, k9, z7⟩
  have ge_b6 : w.heap.size ≤ b6 := by have := hB.size; omega
  have ne_b1_b6 : b1 ≠ b6 := by have := hb1.lt; omega
  have ne_b2_b6 : b2 ≠ b6 := by have := hb2.lt; omega
  have ne_b3_b6 : b3 ≠ b6 := by have := hb3.lt; omega
  have ne_b4_b6 : b4 ≠ b6 := by have := hb4.lt; omega
  have ne_b5_b6 : b5 ≠ b6 := by have := hb6.lt; omega
  obtain ⟨hB, hb1, hb2, hb3, hb4, hb6⟩ := dq k9 hB hb1 hb2 hb3 hb4 hb6
  clear eb6 z7
  replace hb7 : Bk w9 b6 65 (iv .i64 16 (fun _ => 0)) := by rw [iv, bE]; exact hb7
  refine ae (bh (vs := iv .i64 16 hh2) bA rfl rfl rfl ai hb7 rfl) ?_
  rintro _ w10 ⟨hb8, k10, z8⟩
  replace hb1 := hb1.keep k10 (nm ne_b1_b6)
  replace hb2 := hb2.keep k10 (nm ne_b2_b6)
  replace hb3 := hb3.keep k10 (nm ne_b3_b6)
  replace hb4 := hb4.keep k10 (nm ne_b4_b6)
  replace hb6 := hb6.keep k10 (nm ne_b5_b6)
  replace hB := hB.new k10 (nw ge_b6)
  clear z8
  refine a6 (a9 [(3, _), (4, _), (5, _), (6, _), (7, _), (8, _)] ⟨rfl, rfl, rfl, rfl, rfl, rfl, trivial⟩ (a5 ?_))
  have gs1 := hB.size
  have lt1 := hb1.lt
  have lt2 := hb2.lt
  have lt4 := hb4.lt
  have lt5 := hb6.lt
  have lt6 := hb8.lt
  refine bO 8 [0, 1, 2, 3, 5, 4, 6] [4, 6] [] [(7, 65, List.replicate 16 (.int .i64 0))] mixed [(3, _), (4, _), (5, _), (6, _), (7, _), (8, _)] ⟨rfl, rfl, rfl, rfl, rfl, rfl, trivial⟩ (by decide +kernel) (by decide) (by decide) ?_ (fun x hx => by cases hx) rfl (fun w11 k11 => ?_)
  · simp only [List.forall_mem_cons]; exact ⟨⟨_, _, _, _, _, _, rfl, bA⟩, fun q hq => by cases hq⟩
  obtain ⟨hB, hb1, hb2, hb3, hb4, hb6, hb8⟩ := kq6 k11 hB hb1 hb2 hb3 hb4 hb6 hb8
  refine al 3 rfl rfl rfl rfl (fun W' kk => ax 48 aP rfl bA (by decide) rfl rfl) (al 25 rfl rfl rfl rfl (fun W' kk => di bj bA rfl (Bk.sD hb1 kk) (by first | omega | (unfold In at *; omega))) (al 4 rfl rfl rfl rfl (fun W' kk => ax 48 aP rfl bA (by decide) rfl rfl) (al 27 rfl rfl rfl rfl (fun W' kk => di bj bA rfl (Bk.sD hb2 kk) (by first | omega | (unfold In at *; omega))) (al 5 rfl rfl rfl rfl (fun W' kk => aa (cs' := iv .i64 16 f) bj bA rfl (Bk.sD hb3 kk) rfl rfl) (bm [(26, _), (28, _)] rfl rfl ⟨rfl, rfl, trivial⟩ rfl (fun w13 k13 => ?_))))))
  obtain ⟨hB, hb1, hb2, hb4, hb6, hb8⟩ := dq k13 hB hb1 hb2 hb4 hb6 hb8
  refine (a8 (vs := [_, _]) rfl (bp _ _ _ _ hpT hqT _)).mono ?_
  rintro _ w12 ⟨hh3, rfl, E3, k12⟩
  refine ⟨k12, nox, ?_⟩
  obtain ⟨hB, hb1, hb2, hb4, hb6, hb8⟩ := dq k12 hB hb1 hb2 hb4 hb6 hb8
  refine bm [(29, _), (30, _)] rfl rfl ⟨rfl, rfl, trivial⟩ rfl (fun w15 k15 => ?_)
  obtain ⟨hB, hb1, hb2, hb4, hb6, hb8⟩ := dq k15 hB hb1 hb2 hb4 hb6 hb8
  refine (a8 (vs := [_, _]) rfl (bp _ _ _ _ E3 hf _)).mono ?_
  rintro _ w14 ⟨hh4, rfl, E4, k14⟩
  refine ⟨k14, nox, ?_⟩
  obtain ⟨hB, hb1, hb2, hb4, hb6, hb8⟩ := dq k14 hB hb1 hb2 hb4 hb6 hb8
  refine cC (fun w16 k16 => ?_)
  obtain ⟨hB, hb1, hb2, hb4, hb6, hb8⟩ := dq k16 hB hb1 hb2 hb4 hb6 hb8
  intro b7 eb7 lb1 hb9 ds1 sp1
  have ge_b7 : w.heap.size ≤ b7 := Nat.le_trans gs1 eb7
  have ne_b1_b7 : b1 ≠ b7 := Nat.ne_of_lt (Nat.lt_of_lt_of_le lt1 eb7)
  have ne_b2_b7 : b2 ≠ b7 := Nat.ne_of_lt (Nat.lt_of_lt_of_le lt2 eb7)
  have ne_b4_b7 : b4 ≠ b7 := Nat.ne_of_lt (Nat.lt_of_lt_of_le lt4 eb7)
  have ne_b5_b7 : b5 ≠ b7 := Nat.ne_of_lt (Nat.lt_of_lt_of_le lt5 eb7)
  have ne_b6_b7 : b6 ≠ b7 := Nat.ne_of_lt (Nat.lt_of_lt_of_le lt6 eb7)
  replace hb9 : Bk w16 b7 65 (iv .i64 16 (fun _ => 0)) := by rw [iv, bE]; exact hb9
  refine bP (ae (bh (vs := iv .i64 16 hh4) bA rfl rfl rfl ai hb9 rfl) ?_)
  rintro _ w17 ⟨hb10, k17, z9⟩
  replace hb1 := hb1.keep k17 (nm ne_b1_b7)
  replace hb2 := hb2.keep k17 (nm ne_b2_b7)
  replace hb4 := hb4.keep k17 (nm ne_b4_b7)
  replace hb6 := hb6.keep k17 (nm ne_b5_b7)
  replace hb8 := hb8.keep k17 (nm ne_b6_b7)
  replace hB := hB.new k17 (nw ge_b7)
  clear z9
  refine a6 (a5 (aZ (a7 (ax 32 aP rfl bA (by decide) rfl rfl) rfl (a7 (di bj bA rfl hb1 (by first | omega | (unfold In at *; omega))) rfl (a7 (ax 32 aP rfl bA (by decide) rfl rfl) rfl (a7 (di bj bA rfl hb2 (by first | omega | (unfold In at *; omega))) rfl (ad (a8 (vs := [_, _]) rfl (bp _ _ _ _ hpZ hqZ _)) rfl ?_)))))))
  rintro _ w18 ⟨hh5, rfl, E5, k18⟩
  obtain ⟨hB, hb1, hb2, hb4, hb6, hb8, hb10⟩ := kq6 k18 hB hb1 hb2 hb4 hb6 hb8 hb10
  refine ad (aj bA) rfl ?_
  rintro _ w19 ⟨b8, rfl, eb8, hb11, k19, z10⟩
  have ge_b8 : w.heap.size ≤ b8 := by have := hB.size; omega
  have ne_b1_b8 : b1 ≠ b8 := by have := hb1.lt; omega
  have ne_b2_b8 : b2 ≠ b8 := by have := hb2.lt; omega
  have ne_b4_b8 : b4 ≠ b8 := by have := hb4.lt; omega
  have ne_b5_b8 : b5 ≠ b8 := by have := hb6.lt; omega
  have ne_b6_b8 : b6 ≠ b8 := by have := hb8.lt; omega
  have ne_b7_b8 : b7 ≠ b8 := by have := hb10.lt; omega
  obtain ⟨hB, hb1, hb2, hb4, hb6, hb8, hb10⟩ := kq6 k19 hB hb1 hb2 hb4 hb6 hb8 hb10
  clear eb8 z10
  replace hb11 : Bk w19 b8 65 (iv .i64 16 (fun _ => 0)) := by rw [iv, bE]; exact hb11
  refine ae (bh (vs := iv .i64 16 hh5) bA rfl rfl rfl ai hb11 rfl) ?_
  rintro _ w20 ⟨hb12, k20, z11⟩
  replace hb1 := hb1.keep k20 (nm ne_b1_b8)
  replace hb2 := hb2.keep k20 (nm ne_b2_b8)
  replace hb4 := hb4.keep k20 (nm ne_b4_b8)
  replace hb6 := hb6.keep k20 (nm ne_b5_b8)
  replace hb8 := hb8.keep k20 (nm ne_b6_b8)
  replace hb10 := hb10.keep k20 (nm ne_b7_b8)
  replace hB := hB.new k20 (nw ge_b8)
  clear z11
  refine a6 (a9 [(3, _), (4, _), (6, _), (7, _), (8, _), (9, _), (10, _)] ⟨rfl, rfl, rfl, rfl, rfl, rfl, rfl, trivial⟩ (a5 ?_))
  have gs2 := hB.size
  have lt9 := hb4.lt
  have lt10 := hb6.lt
  have lt11 := hb8.lt
  have lt12 := hb10.lt
  have lt13 := hb12.lt
  refine bO 16 [0, 1, 2, 3, 5, 6, 7, 8, 11, 13, 4, 9, 10, 12, 14] [4, 9, 10, 12, 14] [] [(15, 65, List.replicate 16 (.int .i64 0))] mixed [(3, _), (4, _), (7, _), (8, _), (6, _), (9, _), (10, _)] ⟨rfl, rfl, rfl, rfl, rfl, rfl, rfl, trivial⟩ (by decide +kernel) (by decide) (by decide) ?_ (fun x hx => by cases hx) rfl (fun w21 k21 => ?_)
  · simp only [List.forall_mem_cons]; exact ⟨⟨_, _, _, _, _, _, rfl, bA⟩, fun q hq => by cases hq⟩
  obtain ⟨hB, hb1, hb2, hb4, hb6, hb8, hb10, hb12⟩ := kq7 k21 hB hb1 hb2 hb4 hb6 hb8 hb10 hb12
  refine al 3 rfl rfl rfl rfl (fun W' kk => ax 0 aP rfl bA (by decide) rfl rfl) (al 37 rfl rfl rfl rfl (fun W' kk => di bj bA rfl (Bk.sD hb1 kk) (by first | omega | (unfold In at *; omega))) (al 3 rfl rfl rfl rfl (fun W' kk => ax 16 aP rfl bA (by decide) rfl rfl) (al 39 rfl rfl rfl rfl (fun W' kk => di bj bA rfl (Bk.sD hb1 kk) (by first | omega | (unfold In at *; omega))) (al 4 rfl rfl rfl rfl (fun W' kk => ax 0 aP rfl bA (by decide) rfl rfl) (al 42 rfl rfl rfl rfl (fun W' kk => di bj bA rfl (Bk.sD hb2 kk) (by first | omega | (unfold In at *; omega))) (al 4 rfl rfl rfl rfl (fun W' kk => ax 16 aP rfl bA (by decide) rfl rfl) (al 44 rfl rfl rfl rfl (fun W' kk => di bj bA rfl (Bk.sD hb2 kk) (by first | omega | (unfold In at *; omega))) (al 7 rfl rfl rfl rfl (fun W' kk => aa (cs' := iv .i64 16 hh1) bj bA rfl (Bk.sD hb6 kk) rfl rfl) ?_))))))))
  refine al 8 rfl rfl rfl rfl (fun W' kk => aa (cs' := iv .i64 16 hh2) bj bA rfl (Bk.sD hb8 kk) rfl rfl) (bm [(38, _), (40, _)] rfl rfl ⟨rfl, rfl, trivial⟩ rfl (fun w23 k23 => ?_))
  obtain ⟨hB, hb4, hb6, hb8, hb10, hb12⟩ := dq k23 hB hb4 hb6 hb8 hb10 hb12
  refine (a8 (vs := [_, _]) rfl (fI _ _ _ _ hpX hpY _)).mono ?_
  rintro _ w22 ⟨hh6, rfl, E6, k22⟩
  refine ⟨k22, nox, ?_⟩
  obtain ⟨hB, hb4, hb6, hb8, hb10, hb12⟩ := dq k22 hB hb4 hb6 hb8 hb10 hb12
  refine bm [(43, _), (45, _)] rfl rfl ⟨rfl, rfl, trivial⟩ rfl (fun w25 k25 => ?_)
  obtain ⟨hB, hb4, hb6, hb8, hb10, hb12⟩ := dq k25 hB hb4 hb6 hb8 hb10 hb12
  refine (a8 (vs := [_, _]) rfl (fI _ _ _ _ hqX hqY _)).mono ?_
  rintro _ w24 ⟨hh7, rfl, E7, k24⟩
  refine ⟨k24, nox, ?_⟩
  obtain ⟨hB, hb4, hb6, hb8, hb10, hb12⟩ := dq k24 hB hb4 hb6 hb8 hb10 hb12
  refine bm [(41, _), (46, _)] rfl rfl ⟨rfl, rfl, trivial⟩ rfl (fun w27 k27 => ?_)
  obtain ⟨hB, hb4, hb6, hb8, hb10, hb12⟩ := dq k27 hB hb4 hb6 hb8 hb10 hb12
  refine (a8 (vs := [_, _]) rfl (bp _ _ _ _ E6 E7 _)).mono ?_
  rintro _ w26 ⟨hh8, rfl, E8, k26⟩
  refine ⟨k26, nox, ?_⟩
  obtain ⟨hB, hb4, hb6, hb8, hb10, hb12⟩ := dq k26 hB hb4 hb6 hb8 hb10 hb12
  refine bm [(47, _), (48, _)] rfl rfl ⟨rfl, rfl, trivial⟩ rfl (fun w29 k29 => ?_)
  obtain ⟨hB, hb4, hb6, hb8, hb10, hb12⟩ := dq k29 hB hb4 hb6 hb8 hb10 hb12
  refine (a8 (vs := [_, _]) rfl (eD _ _ _ _ E8 E1 _)).mono ?_
  rintro _ w28 ⟨hh9, rfl, E9, k28⟩
  refine ⟨k28, nox, ?_⟩
  obtain ⟨hB, hb4, hb6, hb8, hb10, hb12⟩ := dq k28 hB hb4 hb6 hb8 hb10 hb12
  refine bm [(49, _), (50, _)] rfl rfl ⟨rfl, rfl, trivial⟩ rfl (fun w31 k31 => ?_)
  obtain ⟨hB, hb4, hb6, hb8, hb10, hb12⟩ := dq k31 hB hb4 hb6 hb8 hb10 hb12
  refine (a8 (vs := [_, _]) rfl (eD _ _ _ _ E9 E2 _)).mono ?_
  rintro _ w30 ⟨hh10, rfl, E10, k30⟩
  refine ⟨k30, nox, ?_⟩
  obtain ⟨hB, hb4, hb6, hb8, hb10, hb12⟩ := dq k30 hB hb4 hb6 hb8 hb10 hb12
  refine cC (fun w32 k32 => ?_)
  obtain ⟨hB, hb4, hb6, hb8, hb10, hb12⟩ := dq k32 hB hb4 hb6 hb8 hb10 hb12
  intro b9 eb9 lb2 hb13 ds2 sp2
  have ge_b9 : w.heap.size ≤ b9 := Nat.le_trans gs2 eb9
  have ne_b4_b9 : b4 ≠ b9 := Nat.ne_of_lt (Nat.lt_of_lt_of_le lt9 eb9)
  have ne_b5_b9 : b5 ≠ b9 := Nat.ne_of_lt (Nat.lt_of_lt_of_le lt10 eb9)
  have ne_b6_b9 : b6 ≠ b9 := Nat.ne_of_lt (Nat.lt_of_lt_of_le lt11 eb9)
  have ne_b7_b9 : b7 ≠ b9 := Nat.ne_of_lt (Nat.lt_of_lt_of_le lt12 eb9)
  have ne_b8_b9 : b8 ≠ b9 := Nat.ne_of_lt (Nat.lt_of_lt_of_le lt13 eb9)
  replace hb13 : Bk w32 b9 65 (iv .i64 16 (fun _ => 0)) := by rw [iv, bE]; exact hb13
  refine bP (ae (bh (vs := iv .i64 16 hh10) bA rfl rfl rfl ai hb13 rfl) ?_)
  rintro _ w33 ⟨hb14, k33, z12⟩
  replace hb4 := hb4.keep k33 (nm ne_b4_b9)
  replace hb6 := hb6.keep k33 (nm ne_b5_b9)
  replace hb8 := hb8.keep k33 (nm ne_b6_b9)
  replace hb10 := hb10.keep k33 (nm ne_b7_b9)
  replace hb12 := hb12.keep k33 (nm ne_b8_b9)
  replace hB := hB.new k33 (nw ge_b9)
  clear z12
  refine a6 (a9 [(7, _), (8, _), (6, _), (9, _), (10, _), (11, _)] ⟨rfl, rfl, rfl, rfl, rfl, rfl, trivial⟩ (a5 (aZ (a7 (aa (cs' := iv .i64 16 hh5) bj bA rfl hb12 rfl rfl) rfl (a7 (aa (cs' := iv .i64 16 hh4) bj bA rfl hb10 rfl rfl) rfl (ad (a8 (vs := [_, _]) rfl (eD _ _ _ _ E5 E4 _)) rfl ?_))))))
  rintro _ w34 ⟨hh11, rfl, E11, k34⟩
  obtain ⟨hB, hb4, hb6, hb8, hb10, hb12, hb14⟩ := kq6 k34 hB hb4 hb6 hb8 hb10 hb12 hb14
  refine ad (aj bA) rfl ?_
  rintro _ w35 ⟨b10, rfl, eb10, hb15, k35, z13⟩
  have ge_b10 : w.heap.size ≤ b10 := by have := hB.size; omega
  have ne_b4_b10 : b4 ≠ b10 := by have := hb4.lt; omega
  have ne_b5_b10 : b5 ≠ b10 := by have := hb6.lt; omega
  have ne_b6_b10 : b6 ≠ b10 := by have := hb8.lt; omega
  have ne_b7_b10 : b7 ≠ b10 := by have := hb10.lt; omega
  have ne_b8_b10 : b8 ≠ b10 := by have := hb12.lt; omega
  have ne_b9_b10 : b9 ≠ b10 := by have := hb14.lt; omega
  obtain ⟨hB, hb4, hb6, hb8, hb10, hb12, hb14⟩ := kq6 k35 hB hb4 hb6 hb8 hb10 hb12 hb14
  clear eb10 z13
  replace hb15 : Bk w35 b10 65 (iv .i64 16 (fun _ => 0)) := by rw [iv, bE]; exact hb15
  refine ae (bh (vs := iv .i64 16 hh11) bA rfl rfl rfl ai hb15 rfl) ?_
  rintro _ w36 ⟨hb16, k36, z14⟩
  replace hb4 := hb4.keep k36 (nm ne_b4_b10)
  replace hb6 := hb6.keep k36 (nm ne_b5_b10)
  replace hb8 := hb8.keep k36 (nm ne_b6_b10)
  replace hb10 := hb10.keep k36 (nm ne_b7_b10)
  replace hb12 := hb12.keep k36 (nm ne_b8_b10)
  replace hb14 := hb14.keep k36 (nm ne_b9_b10)
  replace hB := hB.new k36 (nw ge_b10)
  clear z14
  refine a6 (a5 (aZ (a7 (aa (cs' := iv .i64 16 hh5) bj bA rfl hb12 rfl rfl) rfl (a7 (aa (cs' := iv .i64 16 hh4) bj bA rfl hb10 rfl rfl) rfl (ad (a8 (vs := [_, _]) rfl (fI _ _ _ _ E5 E4 _)) rfl ?_)))))
  rintro _ w37 ⟨hh12, rfl, E12, k37⟩
  obtain ⟨hB, hb4, hb6, hb8, hb14, hb16⟩ := dq k37 hB hb4 hb6 hb8 hb14 hb16
  refine ad (aj bA) rfl ?_
  rintro _ w38 ⟨b11, rfl, eb11, hb17, k38, z15⟩
  have ge_b11 : w.heap.size ≤ b11 := by have := hB.size; omega
  have ne_b4_b11 : b4 ≠ b11 := by have := hb4.lt; omega
  have ne_b5_b11 : b5 ≠ b11 := by have := hb6.lt; omega
  have ne_b6_b11 : b6 ≠ b11 := by have := hb8.lt; omega
  have ne_b9_b11 : b9 ≠ b11 := by have := hb14.lt; omega
  have ne_b10_b11 : b10 ≠ b11 := by have := hb16.lt; omega
  obtain ⟨hB, hb4, hb6, hb8, hb14, hb16⟩ := dq k38 hB hb4 hb6 hb8 hb14 hb16
  clear eb11 z15
  replace hb17 : Bk w38 b11 65 (iv .i64 16 (fun _ => 0)) := by rw [iv, bE]; exact hb17
  refine ae (bh (vs := iv .i64 16 hh12) bA rfl rfl rfl ai hb17 rfl) ?_
  rintro _ w39 ⟨hb18, k39, z16⟩
  replace hb4 := hb4.keep k39 (nm ne_b4_b11)
  replace hb6 := hb6.keep k39 (nm ne_b5_b11)
  replace hb8 := hb8.keep k39 (nm ne_b6_b11)
  replace hb14 := hb14.keep k39 (nm ne_b9_b11)
  replace hb16 := hb16.keep k39 (nm ne_b10_b11)
  replace hB := hB.new k39 (nw ge_b11)
  clear z16
  refine a6 (a5 (aZ (a7 (aa (cs' := iv .i64 16 hh2) bj bA rfl hb8 rfl rfl) rfl (a7 (aa (cs' := iv .i64 16 hh1) bj bA rfl hb6 rfl rfl) rfl (ad (a8 (vs := [_, _]) rfl (fI _ _ _ _ E2 E1 _)) rfl ?_)))))
  rintro _ w40 ⟨hh13, rfl, E13, k40⟩
  obtain ⟨hB, hb4, hb14, hb16, hb18⟩ := du k40 hB hb4 hb14 hb16 hb18
  refine ad (aj bA) rfl ?_
  rintro _ w41 ⟨b12, rfl, eb12, hb19, k41, z17⟩
  have ge_b12 : w.heap.size ≤ b12 := by have := hB.size; omega
  have ne_b4_b12 : b4 ≠ b12 := by have := hb4.lt; omega
  have ne_b9_b12 : b9 ≠ b12 := by have := hb14.lt; omega
  have ne_b10_b12 : b10 ≠ b12 := by have := hb16.lt; omega
  have ne_b11_b12 : b11 ≠ b12 := by have := hb18.lt; omega
  obtain ⟨hB, hb4, hb14, hb16, hb18⟩ := du k41 hB hb4 hb14 hb16 hb18
  clear eb12 z17
  replace hb19 : Bk w41 b12 65 (iv .i64 16 (fun _ => 0)) := by rw [iv, bE]; exact hb19
  refine ae (bh (vs := iv .i64 16 hh13) bA rfl rfl rfl ai hb19 rfl) ?_
  rintro _ w42 ⟨hb20, k42, z18⟩
  replace hb4 := hb4.keep k42 (nm ne_b4_b12)
  replace hb14 := hb14.keep k42 (nm ne_b9_b12)
  replace hb16 := hb16.keep k42 (nm ne_b10_b12)
  replace hb18 := hb18.keep k42 (nm ne_b11_b12)
  replace hB := hB.new k42 (nw ge_b12)
  clear z18
  refine a6 (a9 [(6, _), (11, _), (12, _), (13, _), (14, _)] ⟨rfl, rfl, rfl, rfl, rfl, trivial⟩ (a5 (bc 13 [0, 1, 3, 4, 6, 7, 9, 10, 2, 5, 8, 11, 12] [2, 5, 8, 11] [] mixed [(11, _), (12, _), (13, _), (14, _), (6, _)] ⟨rfl, rfl, rfl, rfl, rfl, trivial⟩ (by decide +kernel) rfl (fun w43 k43 => ?_))))
  obtain ⟨hB, hb4, hb14, hb16, hb18, hb20⟩ := dq k43 hB hb4 hb14 hb16 hb18 hb20
  refine am 11 rfl rfl rfl rfl (fun W' kk => aa (cs' := iv .i64 16 hh10) bj bA rfl (Bk.sD hb14 kk) rfl rfl) (am 12 rfl rfl rfl rfl (fun W' kk => aa (cs' := iv .i64 16 hh11) bj bA rfl (Bk.sD hb16 kk) rfl rfl) (am 13 rfl rfl rfl rfl (fun W' kk => aa (cs' := iv .i64 16 hh12) bj bA rfl (Bk.sD hb18 kk) rfl rfl) (am 14 rfl rfl rfl rfl (fun W' kk => aa (cs' := iv .i64 16 hh13) bj bA rfl (Bk.sD hb20 kk) rfl rfl) (am 12 rfl rfl rfl rfl (fun W' kk => aa (cs' := iv .i64 16 hh11) bj bA rfl (Bk.sD hb16 kk) rfl rfl) (am 13 rfl rfl rfl rfl (fun W' kk => aa (cs' := iv .i64 16 hh12) bj bA rfl (Bk.sD hb18 kk) rfl rfl) (am 11 rfl rfl rfl rfl (fun W' kk => aa (cs' := iv .i64 16 hh10) bj bA rfl (Bk.sD hb14 kk) rfl rfl) (am 14 rfl rfl rfl rfl (fun W' kk => aa (cs' := iv .i64 16 hh13) bj bA rfl (Bk.sD hb20 kk) rfl rfl) (bq [(61, _), (62, _)] rfl rfl ⟨rfl, rfl, trivial⟩ rfl (a8 (vs := [_, _]) rfl (bp _ _ _ _ E10 E11 _)) ?_))))))))
  rintro _ w44 ⟨hh14, rfl, E14, k44⟩
  refine ⟨k44, ?_⟩
  obtain ⟨hB, hb4⟩ := bL k44 hB hb4
  refine bq [(64, _), (65, _)] rfl rfl ⟨rfl, rfl, trivial⟩ rfl (a8 (vs := [_, _]) rfl (bp _ _ _ _ E12 E13 _)) ?_
  rintro _ w45 ⟨hh15, rfl, E15, k45⟩
  refine ⟨k45, ?_⟩
  obtain ⟨hB, hb4⟩ := bL k45 hB hb4
  refine bq [(67, _), (68, _)] rfl rfl ⟨rfl, rfl, trivial⟩ rfl (a8 (vs := [_, _]) rfl (bp _ _ _ _ E11 E12 _)) ?_
  rintro _ w46 ⟨hh16, rfl, E16, k46⟩
  refine ⟨k46, ?_⟩
  obtain ⟨hB, hb4⟩ := bL k46 hB hb4
  refine bq [(70, _), (71, _)] rfl rfl ⟨rfl, rfl, trivial⟩ rfl (a8 (vs := [_, _]) rfl (bp _ _ _ _ E10 E13 _)) ?_
  rintro _ w47 ⟨hh17, rfl, E17, k47⟩
  refine ⟨k47, ?_⟩
  obtain ⟨hB, hb4⟩ := bL k47 hB hb4
  refine kK [(63, _), (66, _), (69, _), (72, _)] rfl rfl ⟨rfl, rfl, rfl, rfl, trivial⟩ rfl (fun W' kk => dJ (idx := [0, 1, 2, 3]) (xs := [.tmp 63, .tmp 66, .tmp 69, .tmp 72]) (vs := [_, _, _, _]) (css := [iv .i64 16 hh14, iv .i64 16 hh15, iv .i64 16 hh16, iv .i64 16 hh17]) (out := iv .i64 64 (j8 hh14 hh15 hh16 hh17)) pl67 dQ rfl rfl ⟨rfl, rfl, rfl, rfl, trivial⟩ rfl rfl) (bx (ae (bh (vs := iv .i64 64 (j8 hh14 hh15 hh16 hh17)) dQ rfl rfl rfl ai hb4 rfl) ?_))
  rintro _ w48 ⟨hb21, k48, z19⟩
  replace hB := hB.new k48 (nw ge_b4)
  clear z19
  refine a6 (a9 [(6, _)] ⟨rfl, trivial⟩ (bW hfin Tryz.results33 rfl (ak gN dQ hb21 rfl)  ?_))
  obtain ⟨c1, c2, c3, c4⟩ := rg E14 E15 E16 E17
  exact ⟨_, rfl, c1, c2, c3, c4, hB⟩
theorem rplusR {p q f : Nat → Int} {a b : Pt} (hp : RPt p a) (hq : RPt q b) (oa : OnP a) (ob : OnP b) (hf : RN f d) (w : World) : Rets Tryz.prog 33 [.agg (iv .i64 64 p).toArray, .agg (iv .i64 64 q).toArray, .agg (iv .i64 16 f).toArray] w (fun v w' => ∃ r, v = .agg (iv .i64 64 r).toArray ∧ RPt r (padd a b) ∧ Keep [] w w') := by
  obtain ⟨X1, Y1, Z1, T1, r1, a1, a2, a3, a4⟩ := hp
  obtain ⟨X2, Y2, Z2, T2, r2, b1, b2, b3, b4⟩ := hq
  exact (mW p q f _ _ _ _ _ _ _ _ _ a1 a2 a3 a4 b1 b2 b3 b4 hf w).mono fun v w' ⟨r, e, c1, c2, c3, c4, k⟩ => ⟨r, e, ⟨_, _, _, _, l3 oa ob r1 r2, c1, c2, c3, c4⟩, k⟩
theorem shr_in {x n : Int} (h : 0 ≤ x ∧ x ≤ 255) : In (x / 2 ^ n.toNat) 0 255 := by
 have hp : (0 : Int) < 2 ^ n.toNat := Int.pow_pos (by decide)
 exact ⟨Int.ediv_nonneg h.1 (Int.le_of_lt hp), Int.le_trans (Int.ediv_le_self _ h.1) h.2⟩
theorem rv {x : Int} (h : In x 0 255) : bits .and .u8 x 1 = x % 2 := cL (k := .u8) (a := 0) (b := 255) 1 (c := 1) (m := 2) h rfl rfl rfl rfl rfl rfl
theorem rtimesR (p : Nat → Int) (a : Pt) (v : Value) (xs : List UInt8) (hp : RPt p a) (ha : OnP a) (w : World) (hv : RdB w v xs) (hx : xs.length = 32) : Rets Tryz.prog 32 [.agg (iv .i64 64 p).toArray, v] w (fun u w' => ∃ r, u = .tuple #[.agg (iv .i64 64 r).toArray, .int .i64 0] ∧ RPt r (pmul (leI xs).toNat a) ∧ Keep [] w w') := by
 have hB : Keep [] w w := Keep.refl _ _
 refine ac Tryz.func32 rfl (by decide) Tryz.ntmps32 rfl (fun fin _ hfin => a5 (aZ (ad (bZ (cs := iv .i64 64 p) rfl rfl) rfl ?_)))
 rintro _ w1 ⟨b1, rfl, eb1, hb1, k1, z1⟩
 replace hB := hB.trans k1
 clear eb1 z1
 refine ad (aj dQ) rfl ?_
 rintro _ w2 ⟨b2, rfl, eb2, hb2, k2, z2⟩
 have ge_b2 : w.heap.size ≤ b2 := by have := hB.size; omega
 obtain ⟨hB, hb1⟩ := bL k2 hB hb1
 clear eb2 z2
 replace hb2 : Bk w2 b2 67 (iv .i64 64 (fun _ => 0)) := by rw [iv, bE]; exact hb2
 refine oga rfl rfl (a6 (a5 (a5 (aZ (ogm rfl rfl (a7 (cH aA rfl (by first | assumption | exact Own.rd ‹_› | exact Rd.sD ‹_› hB | exact Own.rd (Own.sD ‹_› hB))) rfl (a7 (eU rfl rfl) rfl (a6 (ck rfl (by omega) (ag (a5 (aZ (ad (a8 (vs := []) rfl (qR _)) rfl ?_)))))))))))))
 rintro _ w3 ⟨hh1, rfl, E1, k3⟩
 obtain ⟨hB, hb1, hb2⟩ := cc k3 hB hb1 hb2
 refine ad (aj bA) rfl ?_
 rintro _ w4 ⟨b3, rfl, eb3, hb3, k4, z3⟩
 have ge_b3 : w.heap.size ≤ b3 := by have := hB.size; omega
 have ne_b1_b3 : b1 ≠ b3 := by have := hb1.lt; omega
 have ne_b2_b3 : b2 ≠ b3 := by have := hb2.lt; omega
 obtain ⟨hB, hb1, hb2⟩ := cc k4 hB hb1 hb2
 clear eb3 z3
 replace hb3 : Bk w4 b3 65 (iv .i64 16 (fun _ => 0)) := by rw [iv, bE]; exact hb3
 refine ae (bh (vs := iv .i64 16 hh1) bA rfl rfl rfl ai hb3 rfl) ?_
 rintro _ w5 ⟨hb4, k5, z4⟩
 replace hb1 := hb1.keep k5 (nm ne_b1_b3)
 replace hb2 := hb2.keep k5 (nm ne_b2_b3)
 replace hB := hB.new k5 (nw ge_b3)
 clear z4
 refine a6 (a5 (aZ (ad (a8 (vs := []) rfl (iD _)) rfl ?_)))
 rintro _ w6 ⟨hh2, rfl, E2, k6⟩
 obtain ⟨hB, hb1, hb2, hb4⟩ := dE k6 hB hb1 hb2 hb4
 refine ad (aj dQ) rfl ?_
 rintro _ w7 ⟨b4, rfl, eb4, hb5, k7, z5⟩
 have ge_b4 : w.heap.size ≤ b4 := by have := hB.size; omega
 have ne_b1_b4 : b1 ≠ b4 := by have := hb1.lt; omega
 have ne_b2_b4 : b2 ≠ b4 := by have := hb2.lt; omega
 have ne_b3_b4 : b3 ≠ b4 := by have := hb4.lt; omega
 obtain ⟨hB, hb1, hb2, hb4⟩ := dE k7 hB hb1 hb2 hb4
 clear eb4 z5
 replace hb5 : Bk w7 b4 67 (iv .i64 64 (fun _ => 0)) := by rw [iv, bE]; exact hb5
 refine ae (bh (vs := iv .i64 64 hh2) dQ rfl rfl rfl ai hb5 rfl) ?_
 rintro _ w8 ⟨hb6, k8, z6⟩
 replace hb1 := hb1.keep k8 (nm ne_b1_b4)
 replace hb2 := hb2.keep k8 (nm ne_b2_b4)
 replace hb4 := hb4.keep k8 (nm ne_b3_b4)
 replace hB := hB.new k8 (nw ge_b4)
 clear z6
 refine a6 (a5 (a5 (aZ (oga rfl rfl (a6 (ab (bT (Γ := Int × (Nat → Int)) (fun ⟨i, o⟩ => [(1, v), (2, .pointer (some ⟨b1, 0, none⟩)), (4, .pointer (some ⟨b2, 0, none⟩)), (6, .pointer (some ⟨b3, 0, none⟩)), (7, .pointer (some ⟨b4, 0, none⟩)), (8, .int .i64 i)]) (fun ⟨i, o⟩ W => -1 ≤ i ∧ i ≤ 255 ∧ RPt o (pmul (topB xs (i + 1)) a) ∧ Bk W b1 67 (iv .i64 64 p) ∧ Bk W b2 67 (iv .i64 64 (fun _ => 0)) ∧ Bk W b3 65 (iv .i64 16 hh1) ∧ Bk W b4 67 (iv .i64 64 o) ∧ Keep [] w W) (fun ⟨i, o⟩ => (i + 1).toNat) ⟨255, hh2⟩ ⟨rfl, rfl, rfl, rfl, rfl, rfl, trivial⟩ (⟨by decide, by decide, (by show RPt _ (pmul (topB xs 256) a); rw [pp hx]; exact E2), hb1, hb2, hb4, hb6, hB⟩) ?_)))))))
 rintro ⟨i, o⟩ w9 ⟨hi0, hi1, hO, hbx2, hbx4, hbx6, hbx7, hB⟩
 refine a9 [(1, v), (2, .pointer (some ⟨b1, 0, none⟩)), (4, .pointer (some ⟨b2, 0, none⟩)), (6, .pointer (some ⟨b3, 0, none⟩)), (7, .pointer (some ⟨b4, 0, none⟩)), (8, .int .i64 i)] ⟨rfl, rfl, rfl, rfl, rfl, rfl, trivial⟩ (a5 (a5 (aZ (ogm rfl rfl (a7 (j7 rfl rfl) rfl (a6 (ba rfl (fun hc1 => ?_) (fun hc1 => ?_))))))))
 ·
  refine ag (a5 (ab (a5 (aZ (a7 (aa (cs' := iv .i64 64 o) gN dQ rfl hbx7 rfl rfl) rfl (a7 (aa (cs' := iv .i64 64 o) gN dQ rfl hbx7 rfl rfl) rfl (a7 (aa (cs' := iv .i64 16 hh1) bj bA rfl hbx6 rfl rfl) rfl (ad (a8 (vs := [_, _, _]) rfl (rplusR hO hO (dW ha _) (dW ha _) E1 _)) rfl ?_))))))))
  rintro _ w10 ⟨hh3, rfl, E3, k9⟩
  obtain ⟨hB, hbx2, hbx4, hbx6, hbx7⟩ := du k9 hB hbx2 hbx4 hbx6 hbx7
  refine ae (bh (vs := iv .i64 64 hh3) dQ rfl rfl rfl ai hbx7 rfl) ?_
  rintro _ w11 ⟨hb7, k10, z7⟩
  replace hbx2 := hbx2.keep k10 (nm ne_b1_b4)
  replace hbx4 := hbx4.keep k10 (nm ne_b2_b4)
  replace hbx6 := hbx6.keep k10 (nm ne_b3_b4)
  replace hB := hB.new k10 (nw ge_b4)
  clear z7
  refine a6 (a5 (aZ (ogm rfl rfl (ogm rfl rfl (a7 (er rfl rfl (by omega)) rfl (a7 (bk aA cf rfl (by first | assumption | exact Own.rd ‹_› | exact Rd.sD ‹_› hB | exact Own.rd (Own.sD ‹_› hB)) rfl (by omega)) rfl (a7 (dI gg rfl (by first | assumption | exact Own.rd ‹_› | exact Rd.sD ‹_› hB | exact Own.rd (Own.sD ‹_› hB)) (by omega)) rfl (ogm rfl rfl (an (e' := i % 8) (lo := 0) (hi := 7) (fL rfl rfl ⟨by omega, by decide⟩) (rfl) (In.wk (bY _ (by decide)) rfl) rfl (fun z8 h1 r1 => an (e' := z8) (lo := 0) (hi := 7) (ef (by rw [aK]; rfl) aR rfl) (ap r1 rfl) (r1) rfl (fun z9 h2 r2 => a7 (fb rfl rfl (by have := r2; unfold In at this; constructor <;> (try simp only [IntKind.bits]) <;> omega)) rfl (an (e' := (gb xs (i / 8) / 2 ^ (z9 : Int).toNat) % 2) (lo := 0) (hi := 1) (cn rfl rfl) (rv (by have := cK xs (i / 8); exact shr_in this)) (In.wk (bY _ (by decide)) rfl) rfl (fun z10 h3 r3 => a7 (fW rfl rfl) rfl (a6 (a9 [(1, _), (2, _), (4, _), (6, _), (7, _), (8, _), (33, _)] ⟨rfl, rfl, rfl, rfl, rfl, rfl, rfl, trivial⟩ ?_)))))))))))))))
  refine ba rfl (fun hc2 => ?_) (fun hc2 => ?_)
  ·
   refine aZ (a7 (aa (cs' := iv .i64 64 hh3) gN dQ rfl hb7 rfl rfl) rfl (a7 (aa (cs' := iv .i64 64 p) gN dQ rfl hbx2 rfl rfl) rfl (a7 (aa (cs' := iv .i64 16 hh1) bj bA rfl hbx6 rfl rfl) rfl (ad (a8 (vs := [_, _, _]) rfl (rplusR E3 hp (iH (dW ha _) (dW ha _)) ha E1 _)) rfl ?_))))
   rintro _ w12 ⟨hh4, rfl, E4, k11⟩
   obtain ⟨hB, hbx2, hbx4, hbx6, hb7⟩ := du k11 hB hbx2 hbx4 hbx6 hb7
   refine ae (bh (vs := iv .i64 64 hh4) dQ rfl rfl rfl ai hb7 rfl) ?_
   rintro _ w13 ⟨hb8, k12, z11⟩
   replace hbx2 := hbx2.keep k12 (nm ne_b1_b4)
   replace hbx4 := hbx4.keep k12 (nm ne_b2_b4)
   replace hbx6 := hbx6.keep k12 (nm ne_b3_b4)
   replace hB := hB.new k12 (nw ge_b4)
   clear z11
   refine a6 (bf (aZ (ogm rfl rfl (a7 (cy rfl rfl (by omega)) rfl (oga rfl rfl (a6 (bX (Γ := Int × (Nat → Int)) ⟨i - 1, hh4⟩ ⟨rfl, rfl, rfl, rfl, rfl, rfl, trivial⟩ (by (try dsimp only); omega) (⟨by omega, by omega, (by rw [show i - 1 + 1 = i by omega, ← pmul_T ha (by omega) (by rw [← rn hx (by omega) hi1 (by have a := h2; have b := h1; unfold Eqn at *; rw [a, b]) h3]; exact decide_eq_true hc2)]; exact E4), hbx2, hbx4, hbx6, hb8, hB⟩))))))))
  ·
   refine ag (bf (aZ (ogm rfl rfl (a7 (cy rfl rfl (by omega)) rfl (oga rfl rfl (a6 (bX (Γ := Int × (Nat → Int)) ⟨i - 1, hh3⟩ ⟨rfl, rfl, rfl, rfl, rfl, rfl, trivial⟩ (by (try dsimp only); omega) (⟨by omega, by omega, (by rw [show i - 1 + 1 = i by omega, ← pmul_F ha (by omega) (by rw [← rn hx (by omega) hi1 (by have a := h2; have b := h1; unfold Eqn at *; rw [a, b]) h3]; exact decide_eq_false hc2)]; exact E3), hbx2, hbx4, hbx6, hb7, hB⟩))))))))
 ·
  refine bF rfl (a5 (aZ (a7 (aa (cs' := iv .i64 64 o) gN dQ rfl hbx7 rfl rfl) rfl (ae (bh (vs := iv .i64 64 o) dQ rfl rfl rfl ai hbx4 rfl) ?_))))
  rintro _ w14 ⟨hb9, k13, z12⟩
  replace hB := hB.new k13 (nw ge_b2)
  clear z12
  refine oga rfl rfl (a6 (cQ hfin Tryz.results32 rfl (ak gN dQ hb9 rfl) rfl ?_))
  exact ⟨o, rfl, (by have e := hO; rw [show i + 1 = 0 by omega, oI] at e; exact e), hB⟩
end Go.Proofs.YtllmbkmghmmhfaaGreatDoor.W
