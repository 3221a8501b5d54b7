/- Contracts and laws, part 7 of 7: what each function of the program and of the reference computes, shown once. -/
import Derived.Deep.Slices
import Derived.Test.YtonchmcppekldaaQbf
set_option maxRecDepth 100000
set_option maxHeartbeats 4000000
set_option linter.unusedVariables false
set_option linter.unusedSimpArgs false
namespace Go.Proofs.Ytonchmcppekldaa.W
open Go Go.Eng Go.Byt
attribute [local irreducible] bdE bdB bgR bgQ bgE
theorem lY (v : Value) (c : List UInt8) (sv pv : Value) (ss : List It) (pa : List UInt8) (w : World) (hs : RdI w sv ss) (hp : RdB w pv pa) (hsm : ∀ x ∈ ss, x.1.length ≤ 140737488351232 ∧ PrLen x.2) (hcn : ss.length * 416 ≤ 140737488351232) (hil : pa.length ≤ 140737488351232) (hv : RdB w v c) (hc : c.length ≤ 140737488351232) : Rets Try.prog 4 [.agg [sv, pv].toArray, v] w (fun r w' => r = .bool true ∧ Keep [] w w') := by
 have hB : Keep [] w w := Keep.refl _ _
 have hs' := hs
 obtain ⟨css, hEl, hsl⟩ := hs'
 refine ai Try.func4 rfl (by decide) Try.ntmps4 rfl (fun fin _ hfin => a5 (aZ (ah (bc (cs := [sv, pv]) rfl rfl) rfl ?_)))
 rintro _ w1 ⟨b1, rfl, eb1, hb1, k1, z1⟩
 have ge_b1 : w.heap.size ≤ b1 := by have := hB.size; omega
 replace hB := hB.trans k1
 clear eb1 z1
 refine oga rfl rfl (a6 (a5 (aZ (ogm rfl rfl (ah (ab (vs := [_]) rfl (nV _ c _ (by first | assumption | exact Own.rd ‹_› | exact Rd.oC ‹_› hB | exact Own.rd (Own.oC ‹_› hB)) hc)) rfl ?_)))))
 rintro _ w2 ⟨u1, rfl, o1, k2⟩
 have gl_o1 := hB.size
 obtain ⟨hB, hb1⟩ := bX k2 hB hb1
 refine oga rfl rfl (a6 (a5 (aZ (a7 (au (cs' := [_, _]) ig eY rfl hb1 rfl rfl) rfl (ah (ab (vs := [_]) rfl (mn _ _ _ _ _ (RdI.oC hs hB) (Rd.oC hp hB) hsm hcn (by omega))) rfl ?_)))))
 rintro _ w3 ⟨q1, x1, rfl, P1, U1, k3⟩
 replace hb1 := hb1.oC k3
 replace o1 := o1.oC k3
 replace hB := hB.trans k3
 have hK1 : Keep [] w3 w3 := Keep.refl _ _
 refine ah (bG cj) rfl ?_
 rintro _ w4 ⟨b2, rfl, eb2, hb2, k4, z2⟩
 have gb_hK1_b2 : w3.heap.size ≤ b2 := by have := hK1.size; omega
 have ge_b2 : w.heap.size ≤ b2 := by have := hB.size; omega
 have ne_b1_b2 : b1 ≠ b2 := by have := hb1.lt; omega
 have sb_b2_o1 := fun x hx => (show x ≠ b2 from by have := (o1.blk x hx).2; omega)
 replace hb1 := hb1.oC k4
 replace o1 := o1.oC k4
 replace hB := hB.trans k4
 replace hK1 := hK1.trans k4
 clear eb2 z2
 refine an (bK cj rfl rfl rfl (by simp only [List.forall_mem_cons]; exact ⟨(RdI.oC P1.rdI hK1).one, (Rd.oC U1.rd hK1).one, fun v hv => by cases hv⟩) hb2 rfl) ?_
 rintro _ w5 ⟨hb3, k5, z3⟩
 replace hb1 := hb1.keep k5 (nm ne_b1_b2)
 replace o1 := o1.keep k5 (fun x hx hm => sb_b2_o1 x hx (List.mem_singleton.1 hm))
 replace hB := hB.new k5 (nw ge_b2)
 replace hK1 := hK1.new k5 (nw gb_hK1_b2)
 clear z3
 replace hb3 : Bk w5 b2 _ [q1, x1] := hb3
 refine a6 (a5 (aZ (a7 (au (cs' := [_, _]) ft cj rfl hb3 rfl rfl) rfl (ah (ab (vs := [_]) rfl (eT _ _ _ _ _ (RdI.oC P1.rdI hK1) (Rd.oC U1.rd hK1) hsm)) rfl ?_))))
 rintro _ w6 ⟨u2, rfl, o2, k6⟩
 have gl_o2 := hB.size
 replace hb1 := hb1.oC k6
 replace o1 := o1.oC k6
 obtain ⟨hB, hb3⟩ := bX k6 hB hb3
 replace hK1 := hK1.trans k6
 refine ogm rfl rfl (a7 (bH (vs := [_, _]) rfl rfl) rfl (a7 (bH (vs := [_, _]) rfl rfl) rfl (oga rfl rfl (oga rfl rfl (a6 (af [(1, _), (2, _), (5, _), (6, _), (7, _), (8, _)] ⟨rfl, rfl, rfl, rfl, rfl, rfl, trivial⟩ (a5 (aZ (a7 (au (cs' := [_, _]) ig eY rfl hb1 rfl rfl) rfl (ah (ab (vs := [_]) rfl (mT _ _ _ _ _ (RdI.oC hs hB) (Rd.oC hp hB) hsm)) rfl ?_))))))))))
 rintro _ w7 ⟨u3, rfl, o3, k7⟩
 have gl_o3 := hB.size
 replace hb1 := hb1.oC k7
 replace o1 := o1.oC k7
 replace hb3 := hb3.oC k7
 replace o2 := o2.oC k7
 replace hB := hB.trans k7
 replace hK1 := hK1.trans k7
 refine ogm rfl rfl (a7 (bH (vs := [_, _]) rfl rfl) rfl (a7 (bH (vs := [_, _]) rfl rfl) rfl (oga rfl rfl (oga rfl rfl (a6 (a5 (aZ (ogm rfl rfl (ah (ab (vs := [_]) rfl (jJ _ c _ (lg o1) hc)) rfl ?_)))))))))
 rintro _ w8 ⟨q2, u4, rfl, Q1, U2, k8⟩
 replace hb1 := hb1.oC k8
 replace o1 := o1.oC k8
 replace hb3 := hb3.oC k8
 replace o2 := o2.oC k8
 replace o3 := o3.oC k8
 replace hB := hB.trans k8
 replace hK1 := hK1.trans k8
 have hK2 : Keep [] w8 w8 := Keep.refl _ _
 refine ogm rfl rfl (a7 (bH (vs := [_, _]) rfl rfl) rfl (a7 (bH (vs := [_, _]) rfl rfl) rfl (ah (bG cj) rfl ?_)))
 rintro _ w9 ⟨b3, rfl, eb3, hb4, k9, z4⟩
 have gb_hK1_b3 : w3.heap.size ≤ b3 := by have := hK1.size; omega
 have gb_hK2_b3 : w8.heap.size ≤ b3 := by have := hK2.size; omega
 have ge_b3 : w.heap.size ≤ b3 := by have := hB.size; omega
 have ne_b1_b3 : b1 ≠ b3 := by have := hb1.lt; omega
 have sb_b3_o1 := fun x hx => (show x ≠ b3 from by have := (o1.blk x hx).2; omega)
 have ne_b2_b3 : b2 ≠ b3 := by have := hb3.lt; omega
 have sb_b3_o2 := fun x hx => (show x ≠ b3 from by have := (o2.blk x hx).2; omega)
 have sb_b3_o3 := fun x hx => (show x ≠ b3 from by have := (o3.blk x hx).2; omega)
 replace hb1 := hb1.oC k9
 replace o1 := o1.oC k9
 replace hb3 := hb3.oC k9
 replace o2 := o2.oC k9
 replace o3 := o3.oC k9
 replace hB := hB.trans k9
 replace hK1 := hK1.trans k9
 replace hK2 := hK2.trans k9
 clear eb3 z4
 refine an (bK cj rfl rfl rfl (by simp only [List.forall_mem_cons]; exact ⟨(RdI.oC Q1 hK2).one, (Rd.oC U2 hK2).one, fun v hv => by cases hv⟩) hb4 rfl) ?_
 rintro _ w10 ⟨hb5, k10, z5⟩
 replace hb1 := hb1.keep k10 (nm ne_b1_b3)
 replace o1 := o1.keep k10 (fun x hx hm => sb_b3_o1 x hx (List.mem_singleton.1 hm))
 replace hb3 := hb3.keep k10 (nm ne_b2_b3)
 replace o2 := o2.keep k10 (fun x hx hm => sb_b3_o2 x hx (List.mem_singleton.1 hm))
 replace o3 := o3.keep k10 (fun x hx hm => sb_b3_o3 x hx (List.mem_singleton.1 hm))
 replace hB := hB.new k10 (nw ge_b3)
 replace hK1 := hK1.new k10 (nw gb_hK1_b3)
 replace hK2 := hK2.new k10 (nw gb_hK2_b3)
 clear z5
 replace hb5 : Bk w10 b3 _ [q2, u4] := hb5
 refine oga rfl rfl (a6 (af [(1, _), (2, _), (5, _), (6, _), (7, _), (8, _), (9, _), (10, _), (11, _), (12, _)] ⟨rfl, rfl, rfl, rfl, rfl, rfl, rfl, rfl, rfl, rfl, trivial⟩ (a5 (aZ (ogm rfl rfl (ah (ab (vs := [_]) rfl (mU _ c _ (by first | assumption | exact Own.rd ‹_› | exact Rd.oC ‹_› hB | exact Own.rd (Own.oC ‹_› hB)) hc)) rfl ?_))))))
 rintro _ w11 ⟨q3, u5, rfl, Q2, U3, k11⟩
 replace hb1 := hb1.oC k11
 replace o1 := o1.oC k11
 replace hb3 := hb3.oC k11
 replace o2 := o2.oC k11
 replace o3 := o3.oC k11
 obtain ⟨hB, hb5⟩ := bX k11 hB hb5
 replace hK1 := hK1.trans k11
 replace hK2 := hK2.trans k11
 have hK3 : Keep [] w11 w11 := Keep.refl _ _
 refine ogm rfl rfl (a7 (bH (vs := [_, _]) rfl rfl) rfl (a7 (bH (vs := [_, _]) rfl rfl) rfl (ah (bG eY) rfl ?_)))
 rintro _ w12 ⟨b4, rfl, eb4, hb6, k12, z6⟩
 have gb_hK1_b4 : w3.heap.size ≤ b4 := by have := hK1.size; omega
 have gb_hK2_b4 : w8.heap.size ≤ b4 := by have := hK2.size; omega
 have gb_hK3_b4 : w11.heap.size ≤ b4 := by have := hK3.size; omega
 have ge_b4 : w.heap.size ≤ b4 := by have := hB.size; omega
 have ne_b1_b4 : b1 ≠ b4 := by have := hb1.lt; omega
 have sb_b4_o1 := fun x hx => (show x ≠ b4 from by have := (o1.blk x hx).2; omega)
 have ne_b2_b4 : b2 ≠ b4 := by have := hb3.lt; omega
 have sb_b4_o2 := fun x hx => (show x ≠ b4 from by have := (o2.blk x hx).2; omega)
 have sb_b4_o3 := fun x hx => (show x ≠ b4 from by have := (o3.blk x hx).2; omega)
 have ne_b3_b4 : b3 ≠ b4 := by have := hb5.lt; omega
 replace hb1 := hb1.oC k12
 replace o1 := o1.oC k12
 replace hb3 := hb3.oC k12
 replace o2 := o2.oC k12
 replace o3 := o3.oC k12
 obtain ⟨hB, hb5⟩ := bX k12 hB hb5
 replace hK1 := hK1.trans k12
 replace hK2 := hK2.trans k12
 replace hK3 := hK3.trans k12
 clear eb4 z6
 refine an (bK eY rfl rfl rfl (by simp only [List.forall_mem_cons]; exact ⟨(RdI.oC Q2 hK3).one, (Rd.oC U3 hK3).one, fun v hv => by cases hv⟩) hb6 rfl) ?_
 rintro _ w13 ⟨hb7, k13, z7⟩
 replace hb1 := hb1.keep k13 (nm ne_b1_b4)
 replace o1 := o1.keep k13 (fun x hx hm => sb_b4_o1 x hx (List.mem_singleton.1 hm))
 replace hb3 := hb3.keep k13 (nm ne_b2_b4)
 replace o2 := o2.keep k13 (fun x hx hm => sb_b4_o2 x hx (List.mem_singleton.1 hm))
 replace o3 := o3.keep k13 (fun x hx hm => sb_b4_o3 x hx (List.mem_singleton.1 hm))
 replace hb5 := hb5.keep k13 (nm ne_b3_b4)
 replace hB := hB.new k13 (nw ge_b4)
 replace hK1 := hK1.new k13 (nw gb_hK1_b4)
 replace hK2 := hK2.new k13 (nw gb_hK2_b4)
 replace hK3 := hK3.new k13 (nw gb_hK3_b4)
 clear z7
 replace hb7 : Bk w13 b4 _ [q3, u5] := hb7
 refine oga rfl rfl (a6 (a5 (a5 (aZ (ogm rfl rfl (a7 (br aA aG aI rfl (by first | assumption | exact Own.rd ‹_› | exact Rd.oC ‹_› hB | exact Own.rd (Own.oC ‹_› hB))) rfl (ogm rfl rfl (a7 (br aA aG aI rfl (by first | assumption | exact Own.rd ‹_› | exact Rd.oC ‹_› hB | exact Own.rd (Own.oC ‹_› hB))) rfl (a7 (kT rfl rfl) rfl (ogm rfl rfl (ax (grdT rfl rfl rfl (decide_eq_false (fun h => h rfl))) (bC rfl) rfl (f7 (grdT rfl rfl rfl (decide_eq_false (fun h => h rfl))) (ab (vs := [_]) rfl (fQ _ _)) rfl ?_))))))))))))
 rintro _ w14 ⟨rfl, k14⟩
 replace hb1 := hb1.oC k14
 replace o1 := o1.oC k14
 replace hb3 := hb3.oC k14
 replace o2 := o2.oC k14
 replace o3 := o3.oC k14
 obtain ⟨hB, hb5, hb7⟩ := cS k14 hB hb5 hb7
 replace hK1 := hK1.trans k14
 replace hK2 := hK2.trans k14
 replace hK3 := hK3.trans k14
 refine ax (grdT rfl rfl rfl (decide_eq_false (fun h => h rfl))) (bC rfl) rfl (ax (grdT rfl rfl rfl (decide_eq_false (fun h => h rfl))) (bn rfl rfl) rfl (a7 (dR rfl (decide_eq_false (fun h => h rfl)) rfl) rfl (ogm rfl rfl (ax (grdT rfl rfl rfl (decide_eq_false (fun h => h rfl))) (au (cs' := [_, _]) ft cj rfl hb5 rfl rfl) rfl (ax (grdT rfl rfl rfl (decide_eq_false (fun h => h rfl))) (au (cs' := [_, _]) ig eY rfl hb7 rfl rfl) rfl (f7 (grdT rfl rfl rfl (decide_eq_false (fun h => h rfl))) (ab (vs := [_, _]) rfl (gR _ _ _ _ (bgR c) (bgQ c) _ (RdI.oC Q1 hK2) (Rd.oC U2 hK2) (RdI.oC Q2 hK3) (Rd.oC U3 hK3))) rfl ?_))))))
 rintro _ w15 ⟨rfl, k15⟩
 replace hb1 := hb1.oC k15
 replace o1 := o1.oC k15
 replace hb3 := hb3.oC k15
 replace o2 := o2.oC k15
 replace o3 := o3.oC k15
 obtain ⟨hB, hb5, hb7⟩ := cS k15 hB hb5 hb7
 replace hK1 := hK1.trans k15
 replace hK2 := hK2.trans k15
 replace hK3 := hK3.trans k15
 refine ax (grdT rfl rfl rfl (decide_eq_false (fun h => h rfl))) (cd rfl) rfl (a7 (dR rfl (decide_eq_false (fun h => h rfl)) rfl) rfl (ogm rfl rfl (ax (grdT rfl rfl rfl rfl) (bC rfl) rfl (f7 (grdT rfl rfl rfl rfl) (ab (vs := [_]) rfl (fQ _ _)) rfl ?_))))
 rintro _ w16 ⟨rfl, k16⟩
 replace hb1 := hb1.oC k16
 replace o1 := o1.oC k16
 replace hb3 := hb3.oC k16
 replace o2 := o2.oC k16
 replace o3 := o3.oC k16
 obtain ⟨hB, hb5, hb7⟩ := cS k16 hB hb5 hb7
 replace hK1 := hK1.trans k16
 replace hK2 := hK2.trans k16
 replace hK3 := hK3.trans k16
 refine ax (grdT rfl rfl rfl rfl) (bC rfl) rfl (ax (grdT rfl rfl rfl rfl) (bn rfl rfl) rfl (a7 (dR rfl rfl rfl) rfl (ogm rfl rfl (ax (grdT rfl rfl rfl (decide_eq_false (fun h => h rfl))) (au (cs' := [_, _]) ft cj rfl hb3 rfl rfl) rfl (ax (grdT rfl rfl rfl (decide_eq_false (fun h => h rfl))) (au (cs' := [_, _]) ig eY rfl hb1 rfl rfl) rfl (f7 (grdT rfl rfl rfl (decide_eq_false (fun h => h rfl))) (ab (vs := [_, _]) rfl (gR _ _ _ _ ss pa _ (RdI.oC P1.rdI hK1) (Rd.oC U1.rd hK1) (RdI.oC hs hB) (Rd.oC hp hB))) rfl ?_))))))
 rintro _ w17 ⟨rfl, k17⟩
 replace hb1 := hb1.oC k17
 replace o1 := o1.oC k17
 replace hb3 := hb3.oC k17
 replace o2 := o2.oC k17
 replace o3 := o3.oC k17
 obtain ⟨hB, hb5, hb7⟩ := cS k17 hB hb5 hb7
 replace hK1 := hK1.trans k17
 replace hK2 := hK2.trans k17
 replace hK3 := hK3.trans k17
 refine ax (grdT rfl rfl rfl (decide_eq_false (fun h => h rfl))) (cd rfl) rfl (a7 (dR rfl (decide_eq_false (fun h => h rfl)) rfl) rfl (ogm rfl rfl (ax (grdT rfl rfl rfl rfl) (bC rfl) rfl (ax (grdT rfl rfl rfl rfl) (bC rfl) rfl (f7 (grdT rfl rfl rfl rfl) (ab (vs := [_, _]) rfl (mN _ _ c _ _ o1 (by first | assumption | exact Own.rd ‹_› | exact Rd.oC ‹_› hB | exact Own.rd (Own.oC ‹_› hB)) hc)) rfl ?_)))))
 rintro _ w18 ⟨rfl, k18⟩
 replace hb1 := hb1.oC k18
 replace o1 := o1.oC k18
 replace hb3 := hb3.oC k18
 replace o2 := o2.oC k18
 replace o3 := o3.oC k18
 obtain ⟨hB, hb5, hb7⟩ := cS k18 hB hb5 hb7
 replace hK1 := hK1.trans k18
 replace hK2 := hK2.trans k18
 replace hK3 := hK3.trans k18
 refine ax (grdT rfl rfl rfl rfl) (cd rfl) rfl (a7 (dR rfl rfl rfl) rfl (a6 (af [(1, _), (2, _), (7, _), (8, _), (11, _), (12, _), (77, _)] ⟨rfl, rfl, rfl, rfl, rfl, rfl, rfl, trivial⟩ (dS rfl (rfl) (aj (a5 (a5 (aZ (ogm rfl rfl (ah (ab (vs := [_]) rfl (fQ _ _)) rfl ?_))))))))))
 rintro _ w19 ⟨rfl, k19⟩
 replace hb1 := hb1.oC k19
 replace o1 := o1.oC k19
 replace hb3 := hb3.oC k19
 replace o2 := o2.oC k19
 replace o3 := o3.oC k19
 obtain ⟨hB, hb5, hb7⟩ := cS k19 hB hb5 hb7
 replace hK1 := hK1.trans k19
 replace hK2 := hK2.trans k19
 replace hK3 := hK3.trans k19
 refine a7 (bE rfl rfl) rfl (a6 (bF rfl (fun hc1 => ?_) (fun hc1 => ?_)))
 ·
  refine a5 (aZ ?_)
  have hpx : bdOk ss pa = true := by
   cases hq : bdOk ss pa with
   | true => rfl
   | false => unfold bdE at hc1; rw [hq] at hc1; exact absurd hc1 (by decide)
  refine ogm rfl rfl (ah (ab (vs := [_]) rfl (lU _ ss pa _ hpx o2.rd)) rfl ?_)
  rintro _ w20 ⟨q4, u6, rfl, Q3, U4, k20⟩
  replace hb1 := hb1.oC k20
  replace o1 := o1.oC k20
  replace o2 := o2.oC k20
  replace o3 := o3.oC k20
  obtain ⟨hB, hb5⟩ := bX k20 hB hb5
  replace hK1 := hK1.trans k20
  replace hK2 := hK2.trans k20
  replace hK3 := hK3.trans k20
  have hK4 : Keep [] w20 w20 := Keep.refl _ _
  refine ogm rfl rfl (a7 (bH (vs := [_, _]) rfl rfl) rfl (a7 (bH (vs := [_, _]) rfl rfl) rfl (ah (bG cj) rfl ?_)))
  rintro _ w21 ⟨b5, rfl, eb5, hb8, k21, z8⟩
  have gb_hK1_b5 : w3.heap.size ≤ b5 := by have := hK1.size; omega
  have gb_hK2_b5 : w8.heap.size ≤ b5 := by have := hK2.size; omega
  have gb_hK3_b5 : w11.heap.size ≤ b5 := by have := hK3.size; omega
  have gb_hK4_b5 : w20.heap.size ≤ b5 := by have := hK4.size; omega
  have ge_b5 : w.heap.size ≤ b5 := by have := hB.size; omega
  have ne_b1_b5 : b1 ≠ b5 := by have := hb1.lt; omega
  have sb_b5_o1 := fun x hx => (show x ≠ b5 from by have := (o1.blk x hx).2; omega)
  have sb_b5_o2 := fun x hx => (show x ≠ b5 from by have := (o2.blk x hx).2; omega)
  have sb_b5_o3 := fun x hx => (show x ≠ b5 from by have := (o3.blk x hx).2; omega)
  have ne_b3_b5 : b3 ≠ b5 := by have := hb5.lt; omega
  replace hb1 := hb1.oC k21
  replace o1 := o1.oC k21
  replace o2 := o2.oC k21
  replace o3 := o3.oC k21
  obtain ⟨hB, hb5⟩ := bX k21 hB hb5
  replace hK1 := hK1.trans k21
  replace hK2 := hK2.trans k21
  replace hK3 := hK3.trans k21
  replace hK4 := hK4.trans k21
  clear eb5 z8
  refine an (bK cj rfl rfl rfl (by simp only [List.forall_mem_cons]; exact ⟨(RdI.oC Q3 hK4).one, (Rd.oC U4 hK4).one, fun v hv => by cases hv⟩) hb8 rfl) ?_
  rintro _ w22 ⟨hb9, k22, z9⟩
  replace hb1 := hb1.keep k22 (nm ne_b1_b5)
  replace o1 := o1.keep k22 (fun x hx hm => sb_b5_o1 x hx (List.mem_singleton.1 hm))
  replace o2 := o2.keep k22 (fun x hx hm => sb_b5_o2 x hx (List.mem_singleton.1 hm))
  replace o3 := o3.keep k22 (fun x hx hm => sb_b5_o3 x hx (List.mem_singleton.1 hm))
  replace hb5 := hb5.keep k22 (nm ne_b3_b5)
  replace hB := hB.new k22 (nw ge_b5)
  replace hK1 := hK1.new k22 (nw gb_hK1_b5)
  replace hK2 := hK2.new k22 (nw gb_hK2_b5)
  replace hK3 := hK3.new k22 (nw gb_hK3_b5)
  replace hK4 := hK4.new k22 (nw gb_hK4_b5)
  clear z9
  replace hb9 : Bk w22 b5 _ [q4, u6] := hb9
  refine oga rfl rfl (a6 (af [(1, _), (2, _), (11, _), (12, _), (15, _), (16, _)] ⟨rfl, rfl, rfl, rfl, rfl, rfl, trivial⟩ (a5 (aZ (ogm rfl rfl (ah (ab (vs := [_]) rfl (fQ _ _)) rfl ?_))))))
  rintro _ w23 ⟨rfl, k23⟩
  replace hb1 := hb1.oC k23
  replace o1 := o1.oC k23
  replace o2 := o2.oC k23
  replace o3 := o3.oC k23
  obtain ⟨hB, hb5, hb9⟩ := cS k23 hB hb5 hb9
  replace hK1 := hK1.trans k23
  replace hK2 := hK2.trans k23
  replace hK3 := hK3.trans k23
  replace hK4 := hK4.trans k23
  refine a7 (bn rfl rfl) rfl (ogm rfl rfl (ax (grdT rfl rfl rfl (decide_eq_false (fun h => h rfl))) (au (cs' := [_, _]) ft cj rfl hb9 rfl rfl) rfl (ax (grdT rfl rfl rfl (decide_eq_false (fun h => h rfl))) (au (cs' := [_, _]) ig eY rfl hb1 rfl rfl) rfl (f7 (grdT rfl rfl rfl (decide_eq_false (fun h => h rfl))) (ab (vs := [_, _]) rfl (gR _ _ _ _ ss pa _ (RdI.oC Q3 hK4) (Rd.oC U4 hK4) (RdI.oC hs hB) (Rd.oC hp hB))) rfl ?_))))
  rintro _ w24 ⟨rfl, k24⟩
  replace hb1 := hb1.oC k24
  replace o1 := o1.oC k24
  replace o2 := o2.oC k24
  replace o3 := o3.oC k24
  obtain ⟨hB, hb5, hb9⟩ := cS k24 hB hb5 hb9
  replace hK1 := hK1.trans k24
  replace hK2 := hK2.trans k24
  replace hK3 := hK3.trans k24
  replace hK4 := hK4.trans k24
  refine ax (grdT rfl rfl rfl (decide_eq_false (fun h => h rfl))) (cd rfl) rfl (a7 (dR rfl (decide_eq_false (fun h => h rfl)) rfl) rfl (a6 (af [(1, _), (11, _), (12, _), (94, _)] ⟨rfl, rfl, rfl, rfl, trivial⟩ (dS rfl (rfl) (aj (a5 (a5 (aZ (ogm rfl rfl (ah (ab (vs := [_]) rfl (fQ _ _)) rfl ?_))))))))))
  rintro _ w25 ⟨rfl, k25⟩
  replace hb1 := hb1.oC k25
  replace o1 := o1.oC k25
  replace o2 := o2.oC k25
  replace o3 := o3.oC k25
  obtain ⟨hB, hb5, hb9⟩ := cS k25 hB hb5 hb9
  replace hK1 := hK1.trans k25
  replace hK2 := hK2.trans k25
  replace hK3 := hK3.trans k25
  replace hK4 := hK4.trans k25
  refine a7 (bE rfl rfl) rfl (a6 (bF rfl (fun hc2 => ?_) (fun hc2 => ?_)))
  ·
   refine a5 (aZ ?_)
   have hgp := nu (c := c) ‹_›
   refine a7 (au (cs' := [_, _]) ft cj rfl hb5 rfl rfl) rfl (ah (ab (vs := [_]) rfl (eT _ _ _ _ _ (RdI.oC Q1 hK2) (Rd.oC U2 hK2) (jP c))) rfl ?_)
   rintro _ w26 ⟨u7, rfl, o4, k26⟩
   replace o1 := o1.oC k26
   replace o2 := o2.oC k26
   replace o3 := o3.oC k26
   obtain ⟨hB, hb5⟩ := bX k26 hB hb5
   replace hK1 := hK1.trans k26
   replace hK2 := hK2.trans k26
   replace hK3 := hK3.trans k26
   replace hK4 := hK4.trans k26
   refine ogm rfl rfl (a7 (bH (vs := [_, _]) rfl rfl) rfl (a7 (bH (vs := [_, _]) rfl rfl) rfl (oga rfl rfl (oga rfl rfl (a6 (af [(1, _), (17, _), (18, _)] ⟨rfl, rfl, rfl, trivial⟩ (a5 (aZ (ogm rfl rfl (ah (ab (vs := [_]) rfl (fQ _ _)) rfl ?_))))))))))
   rintro _ w27 ⟨rfl, k27⟩
   replace o1 := o1.oC k27
   replace o2 := o2.oC k27
   replace o3 := o3.oC k27
   replace o4 := o4.oC k27
   replace hB := hB.trans k27
   replace hK1 := hK1.trans k27
   replace hK2 := hK2.trans k27
   replace hK3 := hK3.trans k27
   replace hK4 := hK4.trans k27
   refine a7 (bn rfl rfl) rfl (ogm rfl rfl (ax (grdT rfl rfl rfl (decide_eq_false (fun h => h (by unfold bdE; rw [hgp.1]; rfl)))) (bC rfl) rfl (ax (grdT rfl rfl rfl (decide_eq_false (fun h => h (by unfold bdE; rw [hgp.1]; rfl)))) (br aA aG aI rfl (by first | assumption | exact Own.rd ‹_› | exact Rd.oC ‹_› hB | exact Own.rd (Own.oC ‹_› hB))) rfl (ax (grdT rfl rfl rfl (decide_eq_false (fun h => h (by unfold bdE; rw [hgp.1]; rfl)))) (bC rfl) rfl (ax (grdT rfl rfl rfl (decide_eq_false (fun h => h (by unfold bdE; rw [hgp.1]; rfl)))) (br aA aG aI rfl (by first | assumption | exact Own.rd ‹_› | exact Rd.oC ‹_› hB | exact Own.rd (Own.oC ‹_› hB))) rfl (ax (grdT rfl rfl rfl (decide_eq_false (fun h => h (by unfold bdE; rw [hgp.1]; rfl)))) (kT rfl rfl) rfl (a7 (dR rfl (decide_eq_false (fun h => h (by unfold bdE; rw [hgp.1]; rfl))) rfl) rfl (a6 (af [(112, _)] ⟨rfl, trivial⟩ (dg rfl ((fun h => h hgp.2)) ?_))))))))))
   refine aj (a5 (aZ (ah (ab (vs := []) rfl (eV _)) rfl ?_)))
   rintro _ w28 ⟨rfl, k28⟩
   replace o1 := o1.oC k28
   replace o2 := o2.oC k28
   replace o3 := o3.oC k28
   replace o4 := o4.oC k28
   replace hB := hB.trans k28
   replace hK1 := hK1.trans k28
   replace hK2 := hK2.trans k28
   replace hK3 := hK3.trans k28
   replace hK4 := hK4.trans k28
   refine oga rfl rfl (a6 (al hfin Try.results4 rfl ?_))
   exact ⟨rfl, hB⟩
  ·
   refine aj (a5 (aZ (ah (ab (vs := []) rfl (eV _)) rfl ?_)))
   rintro _ w29 ⟨rfl, k29⟩
   replace o1 := o1.oC k29
   replace o2 := o2.oC k29
   replace o3 := o3.oC k29
   obtain ⟨hB, hb5⟩ := bX k29 hB hb5
   replace hK1 := hK1.trans k29
   replace hK2 := hK2.trans k29
   replace hK3 := hK3.trans k29
   replace hK4 := hK4.trans k29
   refine oga rfl rfl (a6 (al hfin Try.results4 rfl ?_))
   exact ⟨rfl, hB⟩
 ·
  refine aj (a5 (a5 (aZ (ogm rfl rfl (ah (ab (vs := [_]) rfl (fQ _ _)) rfl ?_)))))
  rintro _ w30 ⟨rfl, k30⟩
  replace hb1 := hb1.oC k30
  replace o1 := o1.oC k30
  replace o2 := o2.oC k30
  replace o3 := o3.oC k30
  obtain ⟨hB, hb5⟩ := bX k30 hB hb5
  replace hK1 := hK1.trans k30
  replace hK2 := hK2.trans k30
  replace hK3 := hK3.trans k30
  refine a7 (bE rfl rfl) rfl (a6 (af [(1, _), (11, _), (97, _)] ⟨rfl, rfl, rfl, trivial⟩ (bF rfl (fun hc3 => ?_) (fun hc3 => ?_))))
  ·
   refine a5 (aZ ?_)
   have hgp := nu (c := c) ‹_›
   refine a7 (au (cs' := [_, _]) ft cj rfl hb5 rfl rfl) rfl (ah (ab (vs := [_]) rfl (eT _ _ _ _ _ (RdI.oC Q1 hK2) (Rd.oC U2 hK2) (jP c))) rfl ?_)
   rintro _ w31 ⟨u8, rfl, o5, k31⟩
   replace o1 := o1.oC k31
   replace o2 := o2.oC k31
   replace o3 := o3.oC k31
   obtain ⟨hB, hb5⟩ := bX k31 hB hb5
   replace hK1 := hK1.trans k31
   replace hK2 := hK2.trans k31
   replace hK3 := hK3.trans k31
   refine ogm rfl rfl (a7 (bH (vs := [_, _]) rfl rfl) rfl (a7 (bH (vs := [_, _]) rfl rfl) rfl (oga rfl rfl (oga rfl rfl (a6 (a5 (aZ (ogm rfl rfl (ah (ab (vs := [_]) rfl (fQ _ _)) rfl ?_)))))))))
   rintro _ w32 ⟨rfl, k32⟩
   replace o1 := o1.oC k32
   replace o2 := o2.oC k32
   replace o3 := o3.oC k32
   replace o5 := o5.oC k32
   replace hB := hB.trans k32
   replace hK1 := hK1.trans k32
   replace hK2 := hK2.trans k32
   replace hK3 := hK3.trans k32
   refine a7 (bn rfl rfl) rfl (ogm rfl rfl (ax (grdT rfl rfl rfl (decide_eq_false (fun h => h (by unfold bdE; rw [hgp.1]; rfl)))) (bC rfl) rfl (ax (grdT rfl rfl rfl (decide_eq_false (fun h => h (by unfold bdE; rw [hgp.1]; rfl)))) (br aA aG aI rfl (by first | assumption | exact Own.rd ‹_› | exact Rd.oC ‹_› hB | exact Own.rd (Own.oC ‹_› hB))) rfl (ax (grdT rfl rfl rfl (decide_eq_false (fun h => h (by unfold bdE; rw [hgp.1]; rfl)))) (bC rfl) rfl (ax (grdT rfl rfl rfl (decide_eq_false (fun h => h (by unfold bdE; rw [hgp.1]; rfl)))) (br aA aG aI rfl (by first | assumption | exact Own.rd ‹_› | exact Rd.oC ‹_› hB | exact Own.rd (Own.oC ‹_› hB))) rfl (ax (grdT rfl rfl rfl (decide_eq_false (fun h => h (by unfold bdE; rw [hgp.1]; rfl)))) (kT rfl rfl) rfl (a7 (dR rfl (decide_eq_false (fun h => h (by unfold bdE; rw [hgp.1]; rfl))) rfl) rfl (a6 (af [(112, _)] ⟨rfl, trivial⟩ (dg rfl ((fun h => h hgp.2)) ?_))))))))))
   refine aj (a5 (aZ (ah (ab (vs := []) rfl (eV _)) rfl ?_)))
   rintro _ w33 ⟨rfl, k33⟩
   replace hB := hB.trans k33
   replace hK1 := hK1.trans k33
   replace hK2 := hK2.trans k33
   replace hK3 := hK3.trans k33
   refine oga rfl rfl (a6 (al hfin Try.results4 rfl ?_))
   exact ⟨rfl, hB⟩
  ·
   refine aj (a5 (aZ (ah (ab (vs := []) rfl (eV _)) rfl ?_)))
   rintro _ w34 ⟨rfl, k34⟩
   replace hB := hB.trans k34
   replace hK1 := hK1.trans k34
   replace hK2 := hK2.trans k34
   replace hK3 := hK3.trans k34
   refine oga rfl rfl (a6 (al hfin Try.results4 rfl ?_))
   exact ⟨rfl, hB⟩
end Go.Proofs.Ytonchmcppekldaa.W
namespace Go.Eng
open Go Go.Byt Go.ChangeShapes Go.WideShapes Go.ChangeAt Go.RowKit
section
variable {H : Type} {enc : TypeId × Value → H} {P : Program} {w : World} {base : Nat} {held : Bool}
theorem nJ {α : Type} (z0 : α) {E : List Value → α → Prop} {Q : α → Prop} {t e : TypeId} {s b fuel : Nat} {cs : List Value} {y : DataW H × List MemPlace} (ht : P.underlying t = some (.slice e)) (hce : P.cellsOf e = s) (hbe : P.bytesOf e = b) (h0 : 0 < s)
   (rd : ∀ (n : Nat) (cs' : List Value) (z : DataW H × List MemPlace), DataW.trod enc P w base (fun _ => true) held n e cs' = some z → Small P e z.1 → ∃ x, cs'.length = s ∧ E cs' x ∧ Q x)
   (h : DataW.trod enc P w base (fun _ => true) held fuel t cs = some y) (hs : Small P t y.1) : ∃ v xs, cs = [v] ∧ RdE w s E v xs ∧ xs.length * b ≤ 140737488351232 ∧ ∀ x ∈ xs, Q x := by
 rcases Go.Deep.open_slice ht h with ⟨rfl, rfl⟩ | ⟨a, len, cap, m, n, D, Pl, rfl, hb, hl, hm, hmm, rfl, hx⟩
 · exact ⟨_, [], rfl, ⟨[], gx _ _, Rd.nil _ _⟩, by simp, fun x hx => by cases hx⟩
 · have hmc : m = cap := by rw [hmm]; rfl
   have each : ∀ i, i < len → ∃ q : List Value × α, w.cells? base (a.add (i * s)) s = some q.1 ∧ q.1.length = s ∧ E q.1 q.2 ∧ Q q.2 := by
     intro i hi
     obtain ⟨cs', g1, g2⟩ := hx i (by omega)
     rw [hce] at g1
     have se : Small P e (D i) := km ht hs (i := i) (by simp [List.getElem?_range hi])
     obtain ⟨x, x1, x2, x3⟩ := rd _ _ _ g2 se
     exact ⟨(cs', x), g1, x1, x2, x3⟩
   haveI : Inhabited α := ⟨z0⟩
   obtain ⟨q, hq⟩ := Go.Deep.choose_lt each
   have hlen := is ht hs
   rw [hbe] at hlen
   have hr : reachBytes ≤ 140737488351232 := by decide
   simp only [List.length_map, List.length_range] at hlen
   have hmul := Nat.mul_le_mul_right b (Nat.le_add_right len (m - len))
   have hall : ∀ c ∈ (List.range len).map (fun i => (q i).1), c.length = s := by
     intro c hc
     simp only [List.mem_map, List.mem_range] at hc
     obtain ⟨i, hi, rfl⟩ := hc; exact (hq i hi).2.1
   refine ⟨_, (List.range len).map fun i => (q i).2, rfl, ⟨(List.range len).map fun i => (q i).1, ⟨by simp, hall, ?_⟩, ?_⟩, by simp only [List.length_map, List.length_range]; omega, ?_⟩
   · intro i cs x hc hx
     simp only [List.getElem?_map] at hc hx
     by_cases hi : i < len
     · rw [List.getElem?_range hi] at hc hx
       simp at hc hx
       subst hc hx
       exact (hq i hi).2.2.1
     · rw [List.getElem?_eq_none (by simp; omega)] at hc; simp at hc
   · have hfl := gJ hall
     rw [List.length_map, List.length_range] at hfl
     refine ⟨some a, cap, by simp, by simpa using hl, hm, by rw [hfl]; simp, (fun h => by cases h), ?_⟩
     intro a' ha
     cases ha
     intro j u hj
     have hjl : j < len * s := by
       rw [← hfl]
       exact (List.getElem?_eq_some_iff.1 hj).1
     have hi : j / s < len := (Nat.div_lt_iff_lt_mul h0).2 hjl
     have hk : j % s < s := Nat.mod_lt _ h0
     have hd := eU (s := s) (i := j / s) (cs := (q (j / s)).1) hall (by rw [List.getElem?_map, List.getElem?_range hi]; rfl)
     obtain ⟨hcs, hcl, _⟩ := hq (j / s) hi
     obtain ⟨_, _, hcell⟩ := World.cells?_some hcs
     have ej : j / s * s + j % s = j := by rw [Nat.mul_comm]; exact Nat.div_add_mod j s
     have e0 := hcell (j % s) hk
     rw [kf, ej] at e0
     have e1 : (q (j / s)).1[j % s]? = some u := by
       rw [← hd, List.getElem?_take, if_pos hk, List.getElem?_drop, ej]; exact hj
     rw [← e1]; exact e0
   · intro x hx
     simp only [List.mem_map, List.mem_range] at hx
     obtain ⟨i, hi, rfl⟩ := hx
     exact (hq i hi).2.2.2
end
end Go.Eng
