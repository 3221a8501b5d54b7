/- Contracts and laws, part 5 of 7: what each function of the program and of the reference computes, shown once. -/
import Derived.Maps.RangeRun
import Derived.Test.YtonchmcppekldaaQbd
set_option maxRecDepth 100000
set_option maxHeartbeats 4000000
set_option linter.unusedVariables false
set_option linter.unusedSimpArgs false
namespace Go.Proofs.Ytonchmcppekldaa.W
open Go Go.Eng Go.Byt
theorem j9 (v : List UInt8) : (gpR v).init.length ≤ 64 ∧ (gpR v).leaf.enc.length ≤ 64 ∧ (gpR v).leaf.sig.length ≤ 64 ∧ (gpR v).leaf.name.length ≤ 64 ∧ (gpR v).leaf.hash.length ≤ 64 ∧ (gpR v).leaf.sg.length ≤ 64 ∧ (gpR v).sg.length ≤ 64 := by
 unfold gpR
 cases h : gpOk v with
 | false => simp only [cond_false]; exact ⟨by decide, by decide, by decide, by decide, by decide, by decide, by decide⟩
 | true =>
   unfold gpOk at h
   obtain ⟨n1, n2, hlo⟩ := dj (Bool.and_eq_true_iff.1 (Bool.and_eq_true_iff.1 h).1).2
   obtain ⟨m1, m2, m3, m4, m5, _, _⟩ := cZ hlo
   exact ⟨n1, m1, m2, m3, m4, m5, n2⟩
theorem ja (v : List UInt8) : (glR v).enc.length ≤ 64 ∧ (glR v).sig.length ≤ 64 ∧ (glR v).name.length ≤ 64 ∧ (glR v).hash.length ≤ 64 ∧ (glR v).sg.length ≤ 64 := by
 unfold glR
 cases h : glOk v with
 | false => simp only [cond_false]; exact ⟨by decide, by decide, by decide, by decide, by decide⟩
 | true =>
   unfold glOk at h
   obtain ⟨m1, m2, m3, m4, m5, _, _⟩ := cZ (Bool.and_eq_true_iff.1 (Bool.and_eq_true_iff.1 h).1).2
   exact ⟨m1, m2, m3, m4, m5⟩
theorem kr (p : Nat) (rest : List UInt8) (e : Int) (w : World) (h : RdR w p rest e) : Rets Try.prog 43 [.pointer (some ⟨p, 0, none⟩), .int .i64 4] w (fun v w' => v = .int .i64 (rNum 32 rest e 4).1 ∧ RdR w' p (rNum 32 rest e 4).2.1 (rNum 32 rest e 4).2.2 ∧ Keep [p] w w') := by
  refine (e7 p rest e 4 w h (by decide)).mono ?_
  rintro v w' ⟨r, hr, h1, h2, h3⟩
  rw [show bitsOf 4 = 32 from by decide] at hr; subst hr; exact ⟨h1, h2, h3⟩
theorem gn (a b : Int) (o : Bool) : (decide (a = 0) && decide (b = 0) && o) = !(decide (a ≠ 0) || decide (b ≠ 0) || !o) := by
 by_cases h1 : a = 0 <;> by_cases h2 : b = 0 <;> cases o <;> simp [h1, h2]
theorem ky (v : Value) (c : List UInt8) (w : World) (hv : RdB w v c) (hc : c.length ≤ 140737488351232) : Rets Try.prog 10 [v] w (fun r w' => ∃ i e s n h g gg e2 s2 n2 h2 g2 y1 y2 y3, r = .tuple #[.agg [.int .i64 (kgR c).kind, i, e, s, n, .int .i64 (kgR c).pk.leaf.src, h, g, gg, e2, s2, n2, .int .i64 (kgR c).lf.src, h2, g2, .int .i64 (kgR c).ix, y1, y2, y3].toArray, .int .i64 (kgE c)] ∧ OwnB w' w.heap.size i (kgR c).pk.init ∧ OwnB w' w.heap.size e (kgR c).pk.leaf.enc ∧ OwnB w' w.heap.size s (kgR c).pk.leaf.sig ∧ OwnB w' w.heap.size n (kgR c).pk.leaf.name ∧ OwnB w' w.heap.size h (kgR c).pk.leaf.hash ∧ OwnB w' w.heap.size g (kgR c).pk.leaf.sg ∧ OwnB w' w.heap.size gg (kgR c).pk.sg ∧ OwnB w' w.heap.size e2 (kgR c).lf.enc ∧ OwnB w' w.heap.size s2 (kgR c).lf.sig ∧ OwnB w' w.heap.size n2 (kgR c).lf.name ∧ OwnB w' w.heap.size h2 (kgR c).lf.hash ∧ OwnB w' w.heap.size g2 (kgR c).lf.sg ∧ OwnB w' w.heap.size y1 (kgR c).psk ∧ OwnB w' w.heap.size y2 (kgR c).nonce ∧ OwnB w' w.heap.size y3 (kgR c).enc ∧ Keep [] w w') := by
 have hB : Keep [] w w := Keep.refl _ _
 have hlV : (kyV c).1.length ≤ 140737488351232 := by have : (kyV c).1.length ≤ 65536 := bU _ _; omega
 have hlW : (kyW c).1.length ≤ 140737488351232 := by have : (kyW c).1.length ≤ 65536 := bU _ _; omega
 obtain ⟨z1, z2, z3, z4⟩ := nY c
 have gm := j9 (kyV c).1; have lm := ja (kyV c).1
 refine ai Try.func10 rfl (by decide) Try.ntmps10 rfl (fun fin _ hfin => a5 (aZ (ah (bG bl) rfl ?_)))
 rintro _ w1 ⟨b1, rfl, eb1, hb1, k1, z1⟩
 have ge_b1 : w.heap.size ≤ b1 := by have := hB.size; omega
 replace hB := hB.trans k1
 clear eb1 z1
 refine oga rfl rfl (a6 (a5 (aZ (ogm rfl rfl ?_))))
 have zb1 := hb1.lt
 have hs8 := hB.size
 refine ah (ab (vs := [_]) rfl (eK _ c _ (hv.oC hB) (by omega))) rfl ?_
 rintro _ w2 ⟨p1, rfl, rr, k2⟩
 obtain ⟨hB, hb1⟩ := bX k2 hB hb1
 have gp1 := rr.1
 replace rr := rr.rdr
 have hp1 : b1 < p1 := by omega
 refine oga rfl rfl (a6 (a5 (aZ (ogm rfl rfl ?_))))
 have lv_km1 := rr.lt
 refine ah (ab (vs := [_, _]) rfl (ff p1 c 0 _ rr)) rfl ?_
 rintro _ w3 ⟨rfl, rr, km1⟩
 have z_km1 := km1.size
 replace hb1 := hb1.keep km1 (fun hm => by have h9 := List.mem_singleton.1 hm; omega)
 replace hB := hB.new km1 (fun x hm => .inl (by have h9 := List.mem_singleton.1 hm; omega))
 have rr : RdR w3 p1 (kyA c).2.1 (kyA c).2.2 := rr
 show OW _ _ _ _ _ _ ((10, .int .i64 (kyA c).1) :: _) _
 refine a7 (cA (idx := [0]) (xs := [.tmp 10]) (vs := [_]) (css := [[_]]) (out := [_, _, _, _, _, _, _, _, _, _, _, _, _, _, _, _, _, _, _]) lI bl rfl rfl ⟨rfl, trivial⟩ rfl rfl) rfl ?_
 have lr5 := rr.lt
 refine ah (bG bl) rfl ?_
 rintro _ w4 ⟨b2, rfl, eb2, hb2, k3, z2⟩
 have rlt5 : p1 < b2 := by omega
 have ebk := eb2
 have ge_b2 : w.heap.size ≤ b2 := by have := hB.size; omega
 have ne_b1_b2 : b1 ≠ b2 := by have := hb1.lt; omega
 replace hb1 := hb1.oC k3
 replace rr := rr.oC k3
 replace hB := hB.trans k3
 clear eb2 z2
 refine an (bK bl rfl rfl rfl (by simp only [List.forall_mem_cons]; refine ⟨rfl, rfl, rfl, rfl, rfl, rfl, rfl, rfl, rfl, rfl, rfl, rfl, rfl, rfl, rfl, rfl, rfl, rfl, rfl, fun v hv => by cases hv⟩) hb2 rfl) ?_
 rintro _ w5 ⟨hb3, k4, z3⟩
 replace hb1 := hb1.keep k4 (nm ne_b1_b2)
 replace rr := rr.keep k4 (fun x hx hm => (fun x (hx : x ≤ p1) => (show x ≠ b2 from by omega)) x hx (List.mem_singleton.1 hm))
 replace hB := hB.new k4 (nw ge_b2)
 clear z3
 replace hb3 : Bk w5 b2 _ [.int .i64 (kyA c).1, .slice none 0 0, .slice none 0 0, .slice none 0 0, .slice none 0 0, .int .i64 0, .slice none 0 0, .slice none 0 0, .slice none 0 0, .slice none 0 0, .slice none 0 0, .slice none 0 0, .int .i64 0, .slice none 0 0, .slice none 0 0, .int .i64 0, .slice none 0 0, .slice none 0 0, .slice none 0 0] := hb3
 refine a6 (a5 (aZ (oga rfl rfl (a6 (a5 (a5 (aZ (a7 (ak aB rfl bh (by decide) rfl) rfl (a7 (ae cY rfl hb3 rfl) rfl (a6 (bA (a5 (aZ (a7 (bE rfl rfl) rfl (oga rfl rfl (a6 (bF rfl (fun hc1 => ?_) (fun hc1 => ?_))))))))))))))))))
 ·
  refine aZ (ogm rfl rfl ?_)
  have lv_km2 := rr.lt
  have gw_o1 := hB.size
  have lb_o1_b1 := hb1.lt
  have lb_o1_b2 := hb3.lt
  refine ah (ab (vs := [_]) rfl (bY p1 (kyA c).2.1 (kyA c).2.2 _ rr)) rfl ?_
  rintro v1 w6 ⟨_, rfl, o1, rr, km2⟩
  have gl_o1 := hB.size
  have sb_b1_o1 := fun x hx => (show x ≠ b1 from by have h1 := (o1.blk x hx).1; have h2 := hb1.lt; omega)
  have sb_b2_o1 := fun x hx => (show x ≠ b2 from by have h1 := (o1.blk x hx).1; have h2 := hb3.lt; omega)
  have z_km2 := km2.size
  replace hb1 := hb1.keep km2 (fun hm => by have h9 := List.mem_singleton.1 hm; omega)
  replace hb3 := hb3.keep km2 (fun hm => by have h9 := List.mem_singleton.1 hm; omega)
  replace hB := hB.new km2 (fun x hm => .inl (by have h9 := List.mem_singleton.1 hm; omega))
  have rr : RdR w6 p1 (kyV c).2.1 (kyV c).2.2 := rr
  replace o1 : OwnB w6 w5.heap.size v1 (kyV c).1 := o1
  have lc_b1 := hb1.lt
  have lc_b2 := hb3.lt
  have gwQ := hB.size
  have lcr := rr.lt
  refine ah (ab (vs := [_]) rfl (kx _ (kyV c).1 _ o1.rd hlV)) rfl ?_
  rintro _ w7 ⟨q0, q1, q2, q3, q4, q5, q6, rfl, o70, o71, o72, o73, o74, o75, o76, k5⟩
  replace hb1 := hb1.oC k5
  replace rr := rr.oC k5
  replace hb3 := hb3.oC k5
  replace o1 := o1.oC k5
  replace hB := hB.trans k5
  refine ogm rfl rfl (a7 (bH (vs := [_, _]) rfl rfl) rfl (a7 (bH (vs := [_, _]) rfl rfl) rfl (a7 (ak aB rfl cp (by decide) rfl) rfl (an (bK cp rfl rfl rfl (by simp only [List.forall_mem_cons]; exact ⟨(Own.rd o70).one, (Own.rd o71).one, (Own.rd o72).one, (Own.rd o73).one, rfl, (Own.rd o74).one, (Own.rd o75).one, (Own.rd o76).one, fun v hv => by cases hv⟩) hb3 rfl) ?_))))
  rintro _ w8 ⟨hb4, k6, z4⟩
  replace hb1 := hb1.keep k6 (nm ne_b1_b2)
  replace rr := rr.keep k6 (fun x hx hm => (fun x (hx : x ≤ p1) => (show x ≠ b2 from by omega)) x hx (List.mem_singleton.1 hm))
  replace o1 := o1.keep k6 (fun x hx hm => sb_b2_o1 x hx (List.mem_singleton.1 hm))
  replace o70 := o70.keep k6 (fun x hx hm => (fun x hx => (show x ≠ b2 from by have := (o70.blk x hx).1; omega)) x hx (List.mem_singleton.1 hm))
  replace o71 := o71.keep k6 (fun x hx hm => (fun x hx => (show x ≠ b2 from by have := (o71.blk x hx).1; omega)) x hx (List.mem_singleton.1 hm))
  replace o72 := o72.keep k6 (fun x hx hm => (fun x hx => (show x ≠ b2 from by have := (o72.blk x hx).1; omega)) x hx (List.mem_singleton.1 hm))
  replace o73 := o73.keep k6 (fun x hx hm => (fun x hx => (show x ≠ b2 from by have := (o73.blk x hx).1; omega)) x hx (List.mem_singleton.1 hm))
  replace o74 := o74.keep k6 (fun x hx hm => (fun x hx => (show x ≠ b2 from by have := (o74.blk x hx).1; omega)) x hx (List.mem_singleton.1 hm))
  replace o75 := o75.keep k6 (fun x hx hm => (fun x hx => (show x ≠ b2 from by have := (o75.blk x hx).1; omega)) x hx (List.mem_singleton.1 hm))
  replace o76 := o76.keep k6 (fun x hx hm => (fun x hx => (show x ≠ b2 from by have := (o76.blk x hx).1; omega)) x hx (List.mem_singleton.1 hm))
  replace hB := hB.new k6 (nw ge_b2)
  clear z4
  replace hb4 : Bk w8 b2 _ [.int .i64 (kyA c).1, q0, q1, q2, q3, .int .i64 (gpR (kyV c).1).leaf.src, q4, q5, q6, .slice none 0 0, .slice none 0 0, .slice none 0 0, .int .i64 0, .slice none 0 0, .slice none 0 0, .int .i64 0, .slice none 0 0, .slice none 0 0, .slice none 0 0] := hb4
  refine oga rfl rfl (a6 (af [(2, _), (4, _), (5, _), (6, _)] ⟨rfl, rfl, rfl, rfl, trivial⟩ (cG (a5 (a5 (aZ (ogm rfl rfl (a7 (bn rfl rfl) rfl (ogm rfl rfl (aq 52 false rfl (fun c1 hgc1 => a9 [(4, _)] (ad rfl rfl rfl hgc1) ⟨bB rfl, trivial⟩ (fun hw1 => bC rfl) rfl (cC [(53, _)] (ad rfl rfl rfl hgc1) ⟨ag rfl, trivial⟩ (fun hw2 => ab (vs := [_]) rfl (cl _ _ _ _ rr)) rfl ?_))))))))))))
  rintro w10 k8
  replace hb1 := hb1.oC k8
  replace rr := rr.oC k8
  replace o1 := o1.oC k8
  replace o70 := o70.oC k8
  replace o71 := o71.oC k8
  replace o72 := o72.oC k8
  replace o73 := o73.oC k8
  replace o74 := o74.oC k8
  replace o75 := o75.oC k8
  replace o76 := o76.oC k8
  obtain ⟨hB, hb4⟩ := bX k8 hB hb4
  refine a9 [(54, _)] (ad rfl rfl rfl hgc1) ⟨ag rfl, trivial⟩ (fun hw3 => bn rfl rfl) rfl (a7 (bP rfl rfl hgc1) rfl (ogm rfl rfl (aq 57 false rfl (fun c2 hgc2 => a9 [(5, _)] (ad rfl rfl rfl hgc2) ⟨bB rfl, trivial⟩ (fun hw4 => au (cs' := [_, _, _, _, _, _, _, _, _, _, _, _, _, _, _, _, _, _, _]) dE bl rfl hb4 rfl rfl) rfl (cC [(58, _)] (ad rfl rfl rfl hgc2) ⟨ag rfl, trivial⟩ (fun hw5 => ab (vs := [_]) rfl (cU _ _ _ _ _ _ _ _ _ _ _ _ _ _ _ ⟨(kyA c).1, gpR (kyV c).1, bf, 0, [], [], []⟩ _ o70.rd o71.rd o72.rd o73.rd o74.rd o75.rd o76.rd (show RdB _ _ [] from Rd.nil _ _) (show RdB _ _ [] from Rd.nil _ _) (show RdB _ _ [] from Rd.nil _ _) (show RdB _ _ [] from Rd.nil _ _) (show RdB _ _ [] from Rd.nil _ _) (show RdB _ _ [] from Rd.nil _ _) (show RdB _ _ [] from Rd.nil _ _) (show RdB _ _ [] from Rd.nil _ _) (Nat.le_trans gm.1 (by decide)) (Nat.le_trans gm.2.1 (by decide)) (Nat.le_trans gm.2.2.1 (by decide)) (Nat.le_trans gm.2.2.2.1 (by decide)) (Nat.le_trans gm.2.2.2.2.1 (by decide)) (Nat.le_trans gm.2.2.2.2.2.1 (by decide)) (Nat.le_trans gm.2.2.2.2.2.2 (by decide)) (Nat.zero_le _) (Nat.zero_le _) (Nat.zero_le _) (Nat.zero_le _) (Nat.zero_le _) (Nat.zero_le _) (Nat.zero_le _) (Nat.zero_le _))) rfl ?_)))))
  rintro w12 k10
  replace hb1 := hb1.oC k10
  replace rr := rr.oC k10
  replace o1 := o1.oC k10
  replace o70 := o70.oC k10
  replace o71 := o71.oC k10
  replace o72 := o72.oC k10
  replace o73 := o73.oC k10
  replace o74 := o74.oC k10
  replace o75 := o75.oC k10
  replace o76 := o76.oC k10
  obtain ⟨hB, hb4⟩ := bX k10 hB hb4
  refine a9 [(59, _)] (ad rfl rfl rfl hgc2) ⟨ag rfl, trivial⟩ (fun hw6 => cd rfl) rfl (a7 (bP rfl rfl hgc2) rfl (a6 (af [(2, _), (5, _), (61, _)] ⟨rfl, rfl, rfl, trivial⟩ (bD rfl (fun hc2 => ?_) (fun hc2 => ?_)))))
  ·
   have hd1 := hc2
   try (simp only [Bool.and_eq_true, Bool.or_eq_true, decide_eq_true_eq, Bool.and_eq_false_iff, Bool.or_eq_false_iff, decide_eq_false_iff_not, Bool.not_eq_true', Bool.not_eq_false', Bool.not_eq_true, Bool.not_eq_false, ne_eq, Decidable.not_not, decide_true, decide_false, Bool.true_and, Bool.false_and, Bool.or_false, Bool.false_or, not_true_eq_false, false_or, or_false, true_and, and_true, not_false_eq_true, reduceCtorEq] at hd1)
   refine a5 (aZ (a7 (cA (idx := []) (xs := []) (vs := []) (css := []) (out := [_, _, _, _, _, _, _, _, _, _, _, _, _, _, _, _, _, _, _]) lI bl rfl rfl trivial rfl rfl) rfl (an (bK bl rfl rfl rfl (by simp only [List.forall_mem_cons]; refine ⟨rfl, rfl, rfl, rfl, rfl, rfl, rfl, rfl, rfl, rfl, rfl, rfl, rfl, rfl, rfl, rfl, rfl, rfl, rfl, fun v hv => by cases hv⟩) hb1 rfl) ?_)))
   rintro _ w13 ⟨hb5, k11, z5⟩
   replace o1 := o1.keep k11 (fun x hx hm => sb_b1_o1 x hx (List.mem_singleton.1 hm))
   replace o70 := o70.keep k11 (fun x hx hm => (fun x hx => (show x ≠ b1 from by have := (o70.blk x hx).1; omega)) x hx (List.mem_singleton.1 hm))
   replace o71 := o71.keep k11 (fun x hx hm => (fun x hx => (show x ≠ b1 from by have := (o71.blk x hx).1; omega)) x hx (List.mem_singleton.1 hm))
   replace o72 := o72.keep k11 (fun x hx hm => (fun x hx => (show x ≠ b1 from by have := (o72.blk x hx).1; omega)) x hx (List.mem_singleton.1 hm))
   replace o73 := o73.keep k11 (fun x hx hm => (fun x hx => (show x ≠ b1 from by have := (o73.blk x hx).1; omega)) x hx (List.mem_singleton.1 hm))
   replace o74 := o74.keep k11 (fun x hx hm => (fun x hx => (show x ≠ b1 from by have := (o74.blk x hx).1; omega)) x hx (List.mem_singleton.1 hm))
   replace o75 := o75.keep k11 (fun x hx hm => (fun x hx => (show x ≠ b1 from by have := (o75.blk x hx).1; omega)) x hx (List.mem_singleton.1 hm))
   replace o76 := o76.keep k11 (fun x hx hm => (fun x hx => (show x ≠ b1 from by have := (o76.blk x hx).1; omega)) x hx (List.mem_singleton.1 hm))
   replace hb4 := hb4.keep k11 (nm (Ne.symm ne_b1_b2))
   replace hB := hB.new k11 (nw ge_b1)
   clear z5
   replace hb5 : Bk w13 b1 _ [.int .i64 0, .slice none 0 0, .slice none 0 0, .slice none 0 0, .slice none 0 0, .int .i64 0, .slice none 0 0, .slice none 0 0, .slice none 0 0, .slice none 0 0, .slice none 0 0, .slice none 0 0, .int .i64 0, .slice none 0 0, .slice none 0 0, .int .i64 0, .slice none 0 0, .slice none 0 0, .slice none 0 0] := hb5
   refine oga rfl rfl (a6 (bJ hfin Try.results10 rfl (ar dE bl hb5 rfl) rfl ?_))
   have hk : (kyA c).1 = 1 := by assumption
   obtain ⟨e1, e2, e3⟩ := lR hk
   have eX : kyP c = ⟨(kyA c).1, gpR (kyV c).1, bf, 0, [], [], []⟩ := by rw [hk]; exact e1
   have hok : kgOk c = false := by
    unfold kgOk; rw [eX, e2, e3, gn, show (decide (gpE (kyV c).1 ≠ 0) || decide (rEnd (kyV c).2.1 (kyV c).2.2 ≠ 0) || !prOk ⟨(kyA c).1, gpR (kyV c).1, bf, 0, [], [], []⟩) = true from by assumption]; rfl
   unfold kgR kgE; rw [hok]
   exact ⟨_, _, _, _, _, _, _, _, _, _, _, _, _, _, _, rfl, a8 _ _ _ _, a8 _ _ _ _, a8 _ _ _ _, a8 _ _ _ _, a8 _ _ _ _, a8 _ _ _ _, a8 _ _ _ _, a8 _ _ _ _, a8 _ _ _ _, a8 _ _ _ _, a8 _ _ _ _, a8 _ _ _ _, a8 _ _ _ _, a8 _ _ _ _, a8 _ _ _ _, hB⟩
  ·
   have hd2 := hc2
   try (simp only [Bool.and_eq_true, Bool.or_eq_true, decide_eq_true_eq, Bool.and_eq_false_iff, Bool.or_eq_false_iff, decide_eq_false_iff_not, Bool.not_eq_true', Bool.not_eq_false', Bool.not_eq_true, Bool.not_eq_false, ne_eq, Decidable.not_not, decide_true, decide_false, Bool.true_and, Bool.false_and, Bool.or_false, Bool.false_or, not_true_eq_false, false_or, or_false, true_and, and_true, not_false_eq_true, reduceCtorEq] at hd2)
   refine aj (a5 (aZ (a7 (au (cs' := [_, _, _, _, _, _, _, _, _, _, _, _, _, _, _, _, _, _, _]) dE bl rfl hb4 rfl rfl) rfl (an (bK bl rfl rfl rfl (by simp only [List.forall_mem_cons]; exact ⟨rfl, (Own.rd o70).one, (Own.rd o71).one, (Own.rd o72).one, (Own.rd o73).one, rfl, (Own.rd o74).one, (Own.rd o75).one, (Own.rd o76).one, rfl, rfl, rfl, rfl, rfl, rfl, rfl, rfl, rfl, rfl, fun v hv => by cases hv⟩) hb1 rfl) ?_))))
   rintro _ w14 ⟨hb6, k12, z6⟩
   replace o1 := o1.keep k12 (fun x hx hm => sb_b1_o1 x hx (List.mem_singleton.1 hm))
   replace o70 := o70.keep k12 (fun x hx hm => (fun x hx => (show x ≠ b1 from by have := (o70.blk x hx).1; omega)) x hx (List.mem_singleton.1 hm))
   replace o71 := o71.keep k12 (fun x hx hm => (fun x hx => (show x ≠ b1 from by have := (o71.blk x hx).1; omega)) x hx (List.mem_singleton.1 hm))
   replace o72 := o72.keep k12 (fun x hx hm => (fun x hx => (show x ≠ b1 from by have := (o72.blk x hx).1; omega)) x hx (List.mem_singleton.1 hm))
   replace o73 := o73.keep k12 (fun x hx hm => (fun x hx => (show x ≠ b1 from by have := (o73.blk x hx).1; omega)) x hx (List.mem_singleton.1 hm))
   replace o74 := o74.keep k12 (fun x hx hm => (fun x hx => (show x ≠ b1 from by have := (o74.blk x hx).1; omega)) x hx (List.mem_singleton.1 hm))
   replace o75 := o75.keep k12 (fun x hx hm => (fun x hx => (show x ≠ b1 from by have := (o75.blk x hx).1; omega)) x hx (List.mem_singleton.1 hm))
   replace o76 := o76.keep k12 (fun x hx hm => (fun x hx => (show x ≠ b1 from by have := (o76.blk x hx).1; omega)) x hx (List.mem_singleton.1 hm))
   replace hb4 := hb4.keep k12 (nm (Ne.symm ne_b1_b2))
   replace hB := hB.new k12 (nw ge_b1)
   clear z6
   replace hb6 : Bk w14 b1 _ [.int .i64 (kyA c).1, q0, q1, q2, q3, .int .i64 (gpR (kyV c).1).leaf.src, q4, q5, q6, .slice none 0 0, .slice none 0 0, .slice none 0 0, .int .i64 0, .slice none 0 0, .slice none 0 0, .int .i64 0, .slice none 0 0, .slice none 0 0, .slice none 0 0] := hb6
   refine oga rfl rfl (a6 (bJ hfin Try.results10 rfl (ar dE bl hb6 rfl) rfl ?_))
   have hk : (kyA c).1 = 1 := by assumption
   obtain ⟨e1, e2, e3⟩ := lR hk
   have eX : kyP c = ⟨(kyA c).1, gpR (kyV c).1, bf, 0, [], [], []⟩ := by rw [hk]; exact e1
   have hok : kgOk c = true := by
    unfold kgOk; rw [eX, e2, e3, gn, show (decide (gpE (kyV c).1 ≠ 0) || decide (rEnd (kyV c).2.1 (kyV c).2.2 ≠ 0) || !prOk ⟨(kyA c).1, gpR (kyV c).1, bf, 0, [], [], []⟩) = false from by assumption]; rfl
   rw [show kgR c = ⟨(kyA c).1, gpR (kyV c).1, bf, 0, [], [], []⟩ from by unfold kgR; rw [hok]; exact eX, show kgE c = 0 from by unfold kgE; rw [hok]; rfl]
   exact ⟨_, _, _, _, _, _, _, _, _, _, _, _, _, _, _, rfl, o70.lo gwQ, o71.lo gwQ, o72.lo gwQ, o73.lo gwQ, o74.lo gwQ, o75.lo gwQ, o76.lo gwQ, a8 _ _ _ _, a8 _ _ _ _, a8 _ _ _ _, a8 _ _ _ _, a8 _ _ _ _, a8 _ _ _ _, a8 _ _ _ _, a8 _ _ _ _, hB⟩
 ·
  refine a5 (aZ (a7 (bE rfl rfl) rfl (oga rfl rfl (a6 (af [(2, _), (4, _), (5, _), (6, _), (13, _), (23, _)] ⟨rfl, rfl, rfl, rfl, rfl, rfl, trivial⟩ (bF rfl (fun hc3 => ?_) (fun hc3 => ?_)))))))
  ·
   refine aZ (ogm rfl rfl ?_)
   have lv_km3 := rr.lt
   have gw_o2 := hB.size
   have lb_o2_b1 := hb1.lt
   have lb_o2_b2 := hb3.lt
   refine ah (ab (vs := [_]) rfl (bY p1 (kyA c).2.1 (kyA c).2.2 _ rr)) rfl ?_
   rintro v2 w15 ⟨_, rfl, o2, rr, km3⟩
   have gl_o2 := hB.size
   have sb_b1_o2 := fun x hx => (show x ≠ b1 from by have h1 := (o2.blk x hx).1; have h2 := hb1.lt; omega)
   have sb_b2_o2 := fun x hx => (show x ≠ b2 from by have h1 := (o2.blk x hx).1; have h2 := hb3.lt; omega)
   have z_km3 := km3.size
   replace hb1 := hb1.keep km3 (fun hm => by have h9 := List.mem_singleton.1 hm; omega)
   replace hb3 := hb3.keep km3 (fun hm => by have h9 := List.mem_singleton.1 hm; omega)
   replace hB := hB.new km3 (fun x hm => .inl (by have h9 := List.mem_singleton.1 hm; omega))
   have rr : RdR w15 p1 (kyV c).2.1 (kyV c).2.2 := rr
   replace o2 : OwnB w15 w5.heap.size v2 (kyV c).1 := o2
   have lc_b1 := hb1.lt
   have lc_b2 := hb3.lt
   have gwQ := hB.size
   have lcr := rr.lt
   refine ah (ab (vs := [_]) rfl (jV _ (kyV c).1 _ o2.rd hlV)) rfl ?_
   rintro _ w16 ⟨r0, r1, r2, r3, r4, rfl, o70, o71, o72, o73, o74, k13⟩
   replace hb1 := hb1.oC k13
   replace rr := rr.oC k13
   replace hb3 := hb3.oC k13
   replace o2 := o2.oC k13
   replace hB := hB.trans k13
   refine ogm rfl rfl (a7 (bH (vs := [_, _]) rfl rfl) rfl (a7 (bH (vs := [_, _]) rfl rfl) rfl (a7 (ak aB rfl bm (by decide) rfl) rfl (an (bK bm rfl rfl rfl (by simp only [List.forall_mem_cons]; exact ⟨(Own.rd o70).one, (Own.rd o71).one, (Own.rd o72).one, rfl, (Own.rd o73).one, (Own.rd o74).one, fun v hv => by cases hv⟩) hb3 rfl) ?_))))
   rintro _ w17 ⟨hb7, k14, z7⟩
   replace hb1 := hb1.keep k14 (nm ne_b1_b2)
   replace rr := rr.keep k14 (fun x hx hm => (fun x (hx : x ≤ p1) => (show x ≠ b2 from by omega)) x hx (List.mem_singleton.1 hm))
   replace o2 := o2.keep k14 (fun x hx hm => sb_b2_o2 x hx (List.mem_singleton.1 hm))
   replace o70 := o70.keep k14 (fun x hx hm => (fun x hx => (show x ≠ b2 from by have := (o70.blk x hx).1; omega)) x hx (List.mem_singleton.1 hm))
   replace o71 := o71.keep k14 (fun x hx hm => (fun x hx => (show x ≠ b2 from by have := (o71.blk x hx).1; omega)) x hx (List.mem_singleton.1 hm))
   replace o72 := o72.keep k14 (fun x hx hm => (fun x hx => (show x ≠ b2 from by have := (o72.blk x hx).1; omega)) x hx (List.mem_singleton.1 hm))
   replace o73 := o73.keep k14 (fun x hx hm => (fun x hx => (show x ≠ b2 from by have := (o73.blk x hx).1; omega)) x hx (List.mem_singleton.1 hm))
   replace o74 := o74.keep k14 (fun x hx hm => (fun x hx => (show x ≠ b2 from by have := (o74.blk x hx).1; omega)) x hx (List.mem_singleton.1 hm))
   replace hB := hB.new k14 (nw ge_b2)
   clear z7
   replace hb7 : Bk w17 b2 _ [.int .i64 (kyA c).1, .slice none 0 0, .slice none 0 0, .slice none 0 0, .slice none 0 0, .int .i64 0, .slice none 0 0, .slice none 0 0, .slice none 0 0, r0, r1, r2, .int .i64 (glR (kyV c).1).src, r3, r4, .int .i64 0, .slice none 0 0, .slice none 0 0, .slice none 0 0] := hb7
   refine oga rfl rfl (a6 (cG (a5 (a5 (aZ (ogm rfl rfl (a7 (bn rfl rfl) rfl (ogm rfl rfl (aq 52 false rfl (fun c3 hgc3 => a9 [(4, _)] (ad rfl rfl rfl hgc3) ⟨bB rfl, trivial⟩ (fun hw7 => bC rfl) rfl (cC [(53, _)] (ad rfl rfl rfl hgc3) ⟨ag rfl, trivial⟩ (fun hw8 => ab (vs := [_]) rfl (cl _ _ _ _ rr)) rfl ?_)))))))))))
   rintro w19 k16
   replace hb1 := hb1.oC k16
   replace rr := rr.oC k16
   replace o2 := o2.oC k16
   replace o70 := o70.oC k16
   replace o71 := o71.oC k16
   replace o72 := o72.oC k16
   replace o73 := o73.oC k16
   replace o74 := o74.oC k16
   obtain ⟨hB, hb7⟩ := bX k16 hB hb7
   refine a9 [(54, _)] (ad rfl rfl rfl hgc3) ⟨ag rfl, trivial⟩ (fun hw9 => bn rfl rfl) rfl (a7 (bP rfl rfl hgc3) rfl (ogm rfl rfl (aq 57 false rfl (fun c4 hgc4 => a9 [(5, _)] (ad rfl rfl rfl hgc4) ⟨bB rfl, trivial⟩ (fun hw10 => au (cs' := [_, _, _, _, _, _, _, _, _, _, _, _, _, _, _, _, _, _, _]) dE bl rfl hb7 rfl rfl) rfl (cC [(58, _)] (ad rfl rfl rfl hgc4) ⟨ag rfl, trivial⟩ (fun hw11 => ab (vs := [_]) rfl (cU _ _ _ _ _ _ _ _ _ _ _ _ _ _ _ ⟨(kyA c).1, bg, glR (kyV c).1, 0, [], [], []⟩ _ (show RdB _ _ [] from Rd.nil _ _) (show RdB _ _ [] from Rd.nil _ _) (show RdB _ _ [] from Rd.nil _ _) (show RdB _ _ [] from Rd.nil _ _) (show RdB _ _ [] from Rd.nil _ _) (show RdB _ _ [] from Rd.nil _ _) (show RdB _ _ [] from Rd.nil _ _) o70.rd o71.rd o72.rd o73.rd o74.rd (show RdB _ _ [] from Rd.nil _ _) (show RdB _ _ [] from Rd.nil _ _) (show RdB _ _ [] from Rd.nil _ _) (Nat.zero_le _) (Nat.zero_le _) (Nat.zero_le _) (Nat.zero_le _) (Nat.zero_le _) (Nat.zero_le _) (Nat.zero_le _) (Nat.le_trans lm.1 (by decide)) (Nat.le_trans lm.2.1 (by decide)) (Nat.le_trans lm.2.2.1 (by decide)) (Nat.le_trans lm.2.2.2.1 (by decide)) (Nat.le_trans lm.2.2.2.2 (by decide)) (Nat.zero_le _) (Nat.zero_le _) (Nat.zero_le _))) rfl ?_)))))
   rintro w21 k18
   replace hb1 := hb1.oC k18
   replace rr := rr.oC k18
   replace o2 := o2.oC k18
   replace o70 := o70.oC k18
   replace o71 := o71.oC k18
   replace o72 := o72.oC k18
   replace o73 := o73.oC k18
   replace o74 := o74.oC k18
   obtain ⟨hB, hb7⟩ := bX k18 hB hb7
   refine a9 [(59, _)] (ad rfl rfl rfl hgc4) ⟨ag rfl, trivial⟩ (fun hw12 => cd rfl) rfl (a7 (bP rfl rfl hgc4) rfl (a6 (af [(2, _), (5, _), (61, _)] ⟨rfl, rfl, rfl, trivial⟩ (bD rfl (fun hc4 => ?_) (fun hc4 => ?_)))))
   ·
    have hd3 := hc4
    try (simp only [Bool.and_eq_true, Bool.or_eq_true, decide_eq_true_eq, Bool.and_eq_false_iff, Bool.or_eq_false_iff, decide_eq_false_iff_not, Bool.not_eq_true', Bool.not_eq_false', Bool.not_eq_true, Bool.not_eq_false, ne_eq, Decidable.not_not, decide_true, decide_false, Bool.true_and, Bool.false_and, Bool.or_false, Bool.false_or, not_true_eq_false, false_or, or_false, true_and, and_true, not_false_eq_true, reduceCtorEq] at hd3)
    refine a5 (aZ (a7 (cA (idx := []) (xs := []) (vs := []) (css := []) (out := [_, _, _, _, _, _, _, _, _, _, _, _, _, _, _, _, _, _, _]) lI bl rfl rfl trivial rfl rfl) rfl (an (bK bl rfl rfl rfl (by simp only [List.forall_mem_cons]; refine ⟨rfl, rfl, rfl, rfl, rfl, rfl, rfl, rfl, rfl, rfl, rfl, rfl, rfl, rfl, rfl, rfl, rfl, rfl, rfl, fun v hv => by cases hv⟩) hb1 rfl) ?_)))
    rintro _ w22 ⟨hb8, k19, z8⟩
    replace o2 := o2.keep k19 (fun x hx hm => sb_b1_o2 x hx (List.mem_singleton.1 hm))
    replace o70 := o70.keep k19 (fun x hx hm => (fun x hx => (show x ≠ b1 from by have := (o70.blk x hx).1; omega)) x hx (List.mem_singleton.1 hm))
    replace o71 := o71.keep k19 (fun x hx hm => (fun x hx => (show x ≠ b1 from by have := (o71.blk x hx).1; omega)) x hx (List.mem_singleton.1 hm))
    replace o72 := o72.keep k19 (fun x hx hm => (fun x hx => (show x ≠ b1 from by have := (o72.blk x hx).1; omega)) x hx (List.mem_singleton.1 hm))
    replace o73 := o73.keep k19 (fun x hx hm => (fun x hx => (show x ≠ b1 from by have := (o73.blk x hx).1; omega)) x hx (List.mem_singleton.1 hm))
    replace o74 := o74.keep k19 (fun x hx hm => (fun x hx => (show x ≠ b1 from by have := (o74.blk x hx).1; omega)) x hx (List.mem_singleton.1 hm))
    replace hb7 := hb7.keep k19 (nm (Ne.symm ne_b1_b2))
    replace hB := hB.new k19 (nw ge_b1)
    clear z8
    replace hb8 : Bk w22 b1 _ [.int .i64 0, .slice none 0 0, .slice none 0 0, .slice none 0 0, .slice none 0 0, .int .i64 0, .slice none 0 0, .slice none 0 0, .slice none 0 0, .slice none 0 0, .slice none 0 0, .slice none 0 0, .int .i64 0, .slice none 0 0, .slice none 0 0, .int .i64 0, .slice none 0 0, .slice none 0 0, .slice none 0 0] := hb8
    refine oga rfl rfl (a6 (bJ hfin Try.results10 rfl (ar dE bl hb8 rfl) rfl ?_))
    have hk : (kyA c).1 = 2 := by assumption
    obtain ⟨e1, e2, e3⟩ := lQ hk
    have eX : kyP c = ⟨(kyA c).1, bg, glR (kyV c).1, 0, [], [], []⟩ := by rw [hk]; exact e1
    have hok : kgOk c = false := by
     unfold kgOk; rw [eX, e2, e3, gn, show (decide (glE (kyV c).1 ≠ 0) || decide (rEnd (kyV c).2.1 (kyV c).2.2 ≠ 0) || !prOk ⟨(kyA c).1, bg, glR (kyV c).1, 0, [], [], []⟩) = true from by assumption]; rfl
    unfold kgR kgE; rw [hok]
    exact ⟨_, _, _, _, _, _, _, _, _, _, _, _, _, _, _, rfl, a8 _ _ _ _, a8 _ _ _ _, a8 _ _ _ _, a8 _ _ _ _, a8 _ _ _ _, a8 _ _ _ _, a8 _ _ _ _, a8 _ _ _ _, a8 _ _ _ _, a8 _ _ _ _, a8 _ _ _ _, a8 _ _ _ _, a8 _ _ _ _, a8 _ _ _ _, a8 _ _ _ _, hB⟩
   ·
    have hd4 := hc4
    try (simp only [Bool.and_eq_true, Bool.or_eq_true, decide_eq_true_eq, Bool.and_eq_false_iff, Bool.or_eq_false_iff, decide_eq_false_iff_not, Bool.not_eq_true', Bool.not_eq_false', Bool.not_eq_true, Bool.not_eq_false, ne_eq, Decidable.not_not, decide_true, decide_false, Bool.true_and, Bool.false_and, Bool.or_false, Bool.false_or, not_true_eq_false, false_or, or_false, true_and, and_true, not_false_eq_true, reduceCtorEq] at hd4)
    refine aj (a5 (aZ (a7 (au (cs' := [_, _, _, _, _, _, _, _, _, _, _, _, _, _, _, _, _, _, _]) dE bl rfl hb7 rfl rfl) rfl (an (bK bl rfl rfl rfl (by simp only [List.forall_mem_cons]; exact ⟨rfl, rfl, rfl, rfl, rfl, rfl, rfl, rfl, rfl, (Own.rd o70).one, (Own.rd o71).one, (Own.rd o72).one, rfl, (Own.rd o73).one, (Own.rd o74).one, rfl, rfl, rfl, rfl, fun v hv => by cases hv⟩) hb1 rfl) ?_))))
    rintro _ w23 ⟨hb9, k20, z9⟩
    replace o2 := o2.keep k20 (fun x hx hm => sb_b1_o2 x hx (List.mem_singleton.1 hm))
    replace o70 := o70.keep k20 (fun x hx hm => (fun x hx => (show x ≠ b1 from by have := (o70.blk x hx).1; omega)) x hx (List.mem_singleton.1 hm))
    replace o71 := o71.keep k20 (fun x hx hm => (fun x hx => (show x ≠ b1 from by have := (o71.blk x hx).1; omega)) x hx (List.mem_singleton.1 hm))
    replace o72 := o72.keep k20 (fun x hx hm => (fun x hx => (show x ≠ b1 from by have := (o72.blk x hx).1; omega)) x hx (List.mem_singleton.1 hm))
    replace o73 := o73.keep k20 (fun x hx hm => (fun x hx => (show x ≠ b1 from by have := (o73.blk x hx).1; omega)) x hx (List.mem_singleton.1 hm))
    replace o74 := o74.keep k20 (fun x hx hm => (fun x hx => (show x ≠ b1 from by have := (o74.blk x hx).1; omega)) x hx (List.mem_singleton.1 hm))
    replace hb7 := hb7.keep k20 (nm (Ne.symm ne_b1_b2))
    replace hB := hB.new k20 (nw ge_b1)
    clear z9
    replace hb9 : Bk w23 b1 _ [.int .i64 (kyA c).1, .slice none 0 0, .slice none 0 0, .slice none 0 0, .slice none 0 0, .int .i64 0, .slice none 0 0, .slice none 0 0, .slice none 0 0, r0, r1, r2, .int .i64 (glR (kyV c).1).src, r3, r4, .int .i64 0, .slice none 0 0, .slice none 0 0, .slice none 0 0] := hb9
    refine oga rfl rfl (a6 (bJ hfin Try.results10 rfl (ar dE bl hb9 rfl) rfl ?_))
    have hk : (kyA c).1 = 2 := by assumption
    obtain ⟨e1, e2, e3⟩ := lQ hk
    have eX : kyP c = ⟨(kyA c).1, bg, glR (kyV c).1, 0, [], [], []⟩ := by rw [hk]; exact e1
    have hok : kgOk c = true := by
     unfold kgOk; rw [eX, e2, e3, gn, show (decide (glE (kyV c).1 ≠ 0) || decide (rEnd (kyV c).2.1 (kyV c).2.2 ≠ 0) || !prOk ⟨(kyA c).1, bg, glR (kyV c).1, 0, [], [], []⟩) = false from by assumption]; rfl
    rw [show kgR c = ⟨(kyA c).1, bg, glR (kyV c).1, 0, [], [], []⟩ from by unfold kgR; rw [hok]; exact eX, show kgE c = 0 from by unfold kgE; rw [hok]; rfl]
    exact ⟨_, _, _, _, _, _, _, _, _, _, _, _, _, _, _, rfl, a8 _ _ _ _, a8 _ _ _ _, a8 _ _ _ _, a8 _ _ _ _, a8 _ _ _ _, a8 _ _ _ _, a8 _ _ _ _, o70.lo gwQ, o71.lo gwQ, o72.lo gwQ, o73.lo gwQ, o74.lo gwQ, a8 _ _ _ _, a8 _ _ _ _, a8 _ _ _ _, hB⟩
  ·
   refine a5 (aZ (a7 (bE rfl rfl) rfl (oga rfl rfl (a6 (bF rfl (fun hc5 => ?_) (fun hc5 => ?_))))))
   ·
    refine aZ (ogm rfl rfl ?_)
    have lv_km4 := rr.lt
    refine ah (ab (vs := [_, _]) rfl (kr p1 (kyA c).2.1 (kyA c).2.2 _ rr)) rfl ?_
    rintro _ w24 ⟨rfl, rr, km4⟩
    have z_km4 := km4.size
    replace hb1 := hb1.keep km4 (fun hm => by have h9 := List.mem_singleton.1 hm; omega)
    replace hb3 := hb3.keep km4 (fun hm => by have h9 := List.mem_singleton.1 hm; omega)
    replace hB := hB.new km4 (fun x hm => .inl (by have h9 := List.mem_singleton.1 hm; omega))
    have rr : RdR w24 p1 (kyN c).2.1 (kyN c).2.2 := rr
    show OW _ _ _ _ _ _ ((35, .int .i64 (kyN c).1) :: _) _
    refine a7 (ak aB rfl bh (by decide) rfl) rfl (an (bV bh rfl rfl rfl hb3 rfl) ?_)
    rintro _ w25 ⟨hb10, k21, z10⟩
    replace hb1 := hb1.keep k21 (nm ne_b1_b2)
    replace rr := rr.keep k21 (fun x hx hm => (fun x (hx : x ≤ p1) => (show x ≠ b2 from by omega)) x hx (List.mem_singleton.1 hm))
    replace hB := hB.new k21 (nw ge_b2)
    clear z10
    replace hb10 : Bk w25 b2 _ [.int .i64 (kyA c).1, .slice none 0 0, .slice none 0 0, .slice none 0 0, .slice none 0 0, .int .i64 0, .slice none 0 0, .slice none 0 0, .slice none 0 0, .slice none 0 0, .slice none 0 0, .slice none 0 0, .int .i64 0, .slice none 0 0, .slice none 0 0, .int .i64 (kyN c).1, .slice none 0 0, .slice none 0 0, .slice none 0 0] := hb10
    refine a6 (cG (a5 (a5 (aZ (ogm rfl rfl (a7 (bn rfl rfl) rfl (ogm rfl rfl (aq 52 false rfl (fun c5 hgc5 => a9 [(4, _)] (ad rfl rfl rfl hgc5) ⟨bB rfl, trivial⟩ (fun hw13 => bC rfl) rfl (cC [(53, _)] (ad rfl rfl rfl hgc5) ⟨ag rfl, trivial⟩ (fun hw14 => ab (vs := [_]) rfl (cl _ _ _ _ rr)) rfl ?_))))))))))
    rintro w27 k23
    replace hb1 := hb1.oC k23
    replace rr := rr.oC k23
    obtain ⟨hB, hb10⟩ := bX k23 hB hb10
    refine a9 [(54, _)] (ad rfl rfl rfl hgc5) ⟨ag rfl, trivial⟩ (fun hw15 => bn rfl rfl) rfl (a7 (bP rfl rfl hgc5) rfl (ogm rfl rfl (aq 57 false rfl (fun c6 hgc6 => a9 [(5, _)] (ad rfl rfl rfl hgc6) ⟨bB rfl, trivial⟩ (fun hw16 => au (cs' := [_, _, _, _, _, _, _, _, _, _, _, _, _, _, _, _, _, _, _]) dE bl rfl hb10 rfl rfl) rfl (cC [(58, _)] (ad rfl rfl rfl hgc6) ⟨ag rfl, trivial⟩ (fun hw17 => ab (vs := [_]) rfl (cU _ _ _ _ _ _ _ _ _ _ _ _ _ _ _ ⟨(kyA c).1, bg, bf, (kyN c).1, [], [], []⟩ _ (show RdB _ _ [] from Rd.nil _ _) (show RdB _ _ [] from Rd.nil _ _) (show RdB _ _ [] from Rd.nil _ _) (show RdB _ _ [] from Rd.nil _ _) (show RdB _ _ [] from Rd.nil _ _) (show RdB _ _ [] from Rd.nil _ _) (show RdB _ _ [] from Rd.nil _ _) (show RdB _ _ [] from Rd.nil _ _) (show RdB _ _ [] from Rd.nil _ _) (show RdB _ _ [] from Rd.nil _ _) (show RdB _ _ [] from Rd.nil _ _) (show RdB _ _ [] from Rd.nil _ _) (show RdB _ _ [] from Rd.nil _ _) (show RdB _ _ [] from Rd.nil _ _) (show RdB _ _ [] from Rd.nil _ _) (Nat.zero_le _) (Nat.zero_le _) (Nat.zero_le _) (Nat.zero_le _) (Nat.zero_le _) (Nat.zero_le _) (Nat.zero_le _) (Nat.zero_le _) (Nat.zero_le _) (Nat.zero_le _) (Nat.zero_le _) (Nat.zero_le _) (Nat.zero_le _) (Nat.zero_le _) (Nat.zero_le _))) rfl ?_)))))
    rintro w29 k25
    replace hb1 := hb1.oC k25
    replace rr := rr.oC k25
    obtain ⟨hB, hb10⟩ := bX k25 hB hb10
    refine a9 [(59, _)] (ad rfl rfl rfl hgc6) ⟨ag rfl, trivial⟩ (fun hw18 => cd rfl) rfl (a7 (bP rfl rfl hgc6) rfl (a6 (af [(2, _), (5, _), (61, _)] ⟨rfl, rfl, rfl, trivial⟩ (bD rfl (fun hc6 => ?_) (fun hc6 => ?_)))))
    ·
     have hd5 := hc6
     try (simp only [Bool.and_eq_true, Bool.or_eq_true, decide_eq_true_eq, Bool.and_eq_false_iff, Bool.or_eq_false_iff, decide_eq_false_iff_not, Bool.not_eq_true', Bool.not_eq_false', Bool.not_eq_true, Bool.not_eq_false, ne_eq, Decidable.not_not, decide_true, decide_false, Bool.true_and, Bool.false_and, Bool.or_false, Bool.false_or, not_true_eq_false, false_or, or_false, true_and, and_true, not_false_eq_true, reduceCtorEq] at hd5)
     refine a5 (aZ (a7 (cA (idx := []) (xs := []) (vs := []) (css := []) (out := [_, _, _, _, _, _, _, _, _, _, _, _, _, _, _, _, _, _, _]) lI bl rfl rfl trivial rfl rfl) rfl (an (bK bl rfl rfl rfl (by simp only [List.forall_mem_cons]; refine ⟨rfl, rfl, rfl, rfl, rfl, rfl, rfl, rfl, rfl, rfl, rfl, rfl, rfl, rfl, rfl, rfl, rfl, rfl, rfl, fun v hv => by cases hv⟩) hb1 rfl) ?_)))
     rintro _ w30 ⟨hb11, k26, z11⟩
     replace hb10 := hb10.keep k26 (nm (Ne.symm ne_b1_b2))
     replace hB := hB.new k26 (nw ge_b1)
     clear z11
     replace hb11 : Bk w30 b1 _ [.int .i64 0, .slice none 0 0, .slice none 0 0, .slice none 0 0, .slice none 0 0, .int .i64 0, .slice none 0 0, .slice none 0 0, .slice none 0 0, .slice none 0 0, .slice none 0 0, .slice none 0 0, .int .i64 0, .slice none 0 0, .slice none 0 0, .int .i64 0, .slice none 0 0, .slice none 0 0, .slice none 0 0] := hb11
     refine oga rfl rfl (a6 (bJ hfin Try.results10 rfl (ar dE bl hb11 rfl) rfl ?_))
     have hk : (kyA c).1 = 3 := by assumption
     obtain ⟨e1, e2, e3⟩ := lP hk
     have eX : kyP c = ⟨(kyA c).1, bg, bf, (kyN c).1, [], [], []⟩ := by rw [hk]; exact e1
     have hok : kgOk c = false := by
      unfold kgOk; rw [eX, e2, e3, gn, show (decide ((0 : Int) ≠ 0) || decide (rEnd (kyN c).2.1 (kyN c).2.2 ≠ 0) || !prOk ⟨(kyA c).1, bg, bf, (kyN c).1, [], [], []⟩) = true from by assumption]; rfl
     unfold kgR kgE; rw [hok]
     exact ⟨_, _, _, _, _, _, _, _, _, _, _, _, _, _, _, rfl, a8 _ _ _ _, a8 _ _ _ _, a8 _ _ _ _, a8 _ _ _ _, a8 _ _ _ _, a8 _ _ _ _, a8 _ _ _ _, a8 _ _ _ _, a8 _ _ _ _, a8 _ _ _ _, a8 _ _ _ _, a8 _ _ _ _, a8 _ _ _ _, a8 _ _ _ _, a8 _ _ _ _, hB⟩
    ·
     have hd6 := hc6
     try (simp only [Bool.and_eq_true, Bool.or_eq_true, decide_eq_true_eq, Bool.and_eq_false_iff, Bool.or_eq_false_iff, decide_eq_false_iff_not, Bool.not_eq_true', Bool.not_eq_false', Bool.not_eq_true, Bool.not_eq_false, ne_eq, Decidable.not_not, decide_true, decide_false, Bool.true_and, Bool.false_and, Bool.or_false, Bool.false_or, not_true_eq_false, false_or, or_false, true_and, and_true, not_false_eq_true, reduceCtorEq] at hd6)
     refine aj (a5 (aZ (a7 (au (cs' := [_, _, _, _, _, _, _, _, _, _, _, _, _, _, _, _, _, _, _]) dE bl rfl hb10 rfl rfl) rfl (an (bK bl rfl rfl rfl (by simp only [List.forall_mem_cons]; refine ⟨rfl, rfl, rfl, rfl, rfl, rfl, rfl, rfl, rfl, rfl, rfl, rfl, rfl, rfl, rfl, rfl, rfl, rfl, rfl, fun v hv => by cases hv⟩) hb1 rfl) ?_))))
     rintro _ w31 ⟨hb12, k27, z12⟩
     replace hb10 := hb10.keep k27 (nm (Ne.symm ne_b1_b2))
     replace hB := hB.new k27 (nw ge_b1)
     clear z12
     replace hb12 : Bk w31 b1 _ [.int .i64 (kyA c).1, .slice none 0 0, .slice none 0 0, .slice none 0 0, .slice none 0 0, .int .i64 0, .slice none 0 0, .slice none 0 0, .slice none 0 0, .slice none 0 0, .slice none 0 0, .slice none 0 0, .int .i64 0, .slice none 0 0, .slice none 0 0, .int .i64 (kyN c).1, .slice none 0 0, .slice none 0 0, .slice none 0 0] := hb12
     refine oga rfl rfl (a6 (bJ hfin Try.results10 rfl (ar dE bl hb12 rfl) rfl ?_))
     have hk : (kyA c).1 = 3 := by assumption
     obtain ⟨e1, e2, e3⟩ := lP hk
     have eX : kyP c = ⟨(kyA c).1, bg, bf, (kyN c).1, [], [], []⟩ := by rw [hk]; exact e1
     have hok : kgOk c = true := by
      unfold kgOk; rw [eX, e2, e3, gn, show (decide ((0 : Int) ≠ 0) || decide (rEnd (kyN c).2.1 (kyN c).2.2 ≠ 0) || !prOk ⟨(kyA c).1, bg, bf, (kyN c).1, [], [], []⟩) = false from by assumption]; rfl
     rw [show kgR c = ⟨(kyA c).1, bg, bf, (kyN c).1, [], [], []⟩ from by unfold kgR; rw [hok]; exact eX, show kgE c = 0 from by unfold kgE; rw [hok]; rfl]
     exact ⟨_, _, _, _, _, _, _, _, _, _, _, _, _, _, _, rfl, a8 _ _ _ _, a8 _ _ _ _, a8 _ _ _ _, a8 _ _ _ _, a8 _ _ _ _, a8 _ _ _ _, a8 _ _ _ _, a8 _ _ _ _, a8 _ _ _ _, a8 _ _ _ _, a8 _ _ _ _, a8 _ _ _ _, a8 _ _ _ _, a8 _ _ _ _, a8 _ _ _ _, hB⟩
   ·
    refine a5 (aZ (a7 (bE rfl rfl) rfl (oga rfl rfl (a6 (bF rfl (fun hc7 => ?_) (fun hc7 => ?_))))))
    ·
     refine a5 (aZ (ogm rfl rfl ?_))
     have lv_km5 := rr.lt
     have gw_o3 := hB.size
     have lb_o3_b1 := hb1.lt
     have lb_o3_b2 := hb3.lt
     refine ah (ab (vs := [_]) rfl (bY p1 (kyA c).2.1 (kyA c).2.2 _ rr)) rfl ?_
     rintro v3 w32 ⟨_, rfl, o3, rr, km5⟩
     have gl_o3 := hB.size
     have sb_b1_o3 := fun x hx => (show x ≠ b1 from by have h1 := (o3.blk x hx).1; have h2 := hb1.lt; omega)
     have sb_b2_o3 := fun x hx => (show x ≠ b2 from by have h1 := (o3.blk x hx).1; have h2 := hb3.lt; omega)
     have z_km5 := km5.size
     replace hb1 := hb1.keep km5 (fun hm => by have h9 := List.mem_singleton.1 hm; omega)
     replace hb3 := hb3.keep km5 (fun hm => by have h9 := List.mem_singleton.1 hm; omega)
     replace hB := hB.new km5 (fun x hm => .inl (by have h9 := List.mem_singleton.1 hm; omega))
     have rr : RdR w32 p1 (kyV c).2.1 (kyV c).2.2 := rr
     replace o3 : OwnB w32 w5.heap.size v3 (kyV c).1 := o3
     refine a7 (ak aB rfl am (by decide) rfl) rfl (an (bV am rfl rfl (Rd.one (by first | assumption | exact Own.rd ‹_› | exact Rd.oC ‹_› hB | exact Own.rd (Own.oC ‹_› hB))) hb3 rfl) ?_)
     rintro _ w33 ⟨hb13, k28, z13⟩
     replace hb1 := hb1.keep k28 (nm ne_b1_b2)
     replace rr := rr.keep k28 (fun x hx hm => (fun x (hx : x ≤ p1) => (show x ≠ b2 from by omega)) x hx (List.mem_singleton.1 hm))
     replace o3 := o3.keep k28 (fun x hx hm => sb_b2_o3 x hx (List.mem_singleton.1 hm))
     replace hB := hB.new k28 (nw ge_b2)
     clear z13
     replace hb13 : Bk w33 b2 _ [.int .i64 (kyA c).1, .slice none 0 0, .slice none 0 0, .slice none 0 0, .slice none 0 0, .int .i64 0, .slice none 0 0, .slice none 0 0, .slice none 0 0, .slice none 0 0, .slice none 0 0, .slice none 0 0, .int .i64 0, .slice none 0 0, .slice none 0 0, .int .i64 0, v3, .slice none 0 0, .slice none 0 0] := hb13
     refine a6 (aZ (ogm rfl rfl ?_))
     have lv_km6 := rr.lt
     have gw_o4 := hB.size
     have lb_o4_b1 := hb1.lt
     have lb_o4_b2 := hb13.lt
     refine ah (ab (vs := [_]) rfl (bY p1 (kyV c).2.1 (kyV c).2.2 _ rr)) rfl ?_
     rintro v4 w34 ⟨_, rfl, o4, rr, km6⟩
     have gl_o4 := hB.size
     have sb_b1_o4 := fun x hx => (show x ≠ b1 from by have h1 := (o4.blk x hx).1; have h2 := hb1.lt; omega)
     have sb_b2_o4 := fun x hx => (show x ≠ b2 from by have h1 := (o4.blk x hx).1; have h2 := hb13.lt; omega)
     have z_km6 := km6.size
     replace hb1 := hb1.keep km6 (fun hm => by have h9 := List.mem_singleton.1 hm; omega)
     replace o3 := o3.keep km6 (fun x hx hm => by have h9 := List.mem_singleton.1 hm; have h8 := (o3.blk x hx).1; omega)
     replace hb13 := hb13.keep km6 (fun hm => by have h9 := List.mem_singleton.1 hm; omega)
     replace hB := hB.new km6 (fun x hm => .inl (by have h9 := List.mem_singleton.1 hm; omega))
     have rr : RdR w34 p1 (kyW c).2.1 (kyW c).2.2 := rr
     replace o4 : OwnB w34 w33.heap.size v4 (kyW c).1 := o4
     refine a7 (ak aB rfl am (by decide) rfl) rfl (an (bV am rfl rfl (Rd.one (by first | assumption | exact Own.rd ‹_› | exact Rd.oC ‹_› hB | exact Own.rd (Own.oC ‹_› hB))) hb13 rfl) ?_)
     rintro _ w35 ⟨hb14, k29, z14⟩
     replace hb1 := hb1.keep k29 (nm ne_b1_b2)
     replace rr := rr.keep k29 (fun x hx hm => (fun x (hx : x ≤ p1) => (show x ≠ b2 from by omega)) x hx (List.mem_singleton.1 hm))
     replace o3 := o3.keep k29 (fun x hx hm => sb_b2_o3 x hx (List.mem_singleton.1 hm))
     replace o4 := o4.keep k29 (fun x hx hm => sb_b2_o4 x hx (List.mem_singleton.1 hm))
     replace hB := hB.new k29 (nw ge_b2)
     clear z14
     replace hb14 : Bk w35 b2 _ [.int .i64 (kyA c).1, .slice none 0 0, .slice none 0 0, .slice none 0 0, .slice none 0 0, .int .i64 0, .slice none 0 0, .slice none 0 0, .slice none 0 0, .slice none 0 0, .slice none 0 0, .slice none 0 0, .int .i64 0, .slice none 0 0, .slice none 0 0, .int .i64 0, v3, v4, .slice none 0 0] := hb14
     refine a6 (af [(2, _), (4, _), (5, _), (6, _)] ⟨rfl, rfl, rfl, rfl, trivial⟩ (cG (a5 (a5 (aZ (ogm rfl rfl (a7 (bn rfl rfl) rfl (ogm rfl rfl (aq 52 false rfl (fun c7 hgc7 => a9 [(4, _)] (ad rfl rfl rfl hgc7) ⟨bB rfl, trivial⟩ (fun hw19 => bC rfl) rfl (cC [(53, _)] (ad rfl rfl rfl hgc7) ⟨ag rfl, trivial⟩ (fun hw20 => ab (vs := [_]) rfl (cl _ _ _ _ rr)) rfl ?_)))))))))))
     rintro w37 k31
     replace hb1 := hb1.oC k31
     replace rr := rr.oC k31
     replace o3 := o3.oC k31
     replace o4 := o4.oC k31
     obtain ⟨hB, hb14⟩ := bX k31 hB hb14
     refine a9 [(54, _)] (ad rfl rfl rfl hgc7) ⟨ag rfl, trivial⟩ (fun hw21 => bn rfl rfl) rfl (a7 (bP rfl rfl hgc7) rfl (ogm rfl rfl (aq 57 false rfl (fun c8 hgc8 => a9 [(5, _)] (ad rfl rfl rfl hgc8) ⟨bB rfl, trivial⟩ (fun hw22 => au (cs' := [_, _, _, _, _, _, _, _, _, _, _, _, _, _, _, _, _, _, _]) dE bl rfl hb14 rfl rfl) rfl (cC [(58, _)] (ad rfl rfl rfl hgc8) ⟨ag rfl, trivial⟩ (fun hw23 => ab (vs := [_]) rfl (cU _ _ _ _ _ _ _ _ _ _ _ _ _ _ _ ⟨(kyA c).1, bg, bf, 0, (kyV c).1, (kyW c).1, []⟩ _ (show RdB _ _ [] from Rd.nil _ _) (show RdB _ _ [] from Rd.nil _ _) (show RdB _ _ [] from Rd.nil _ _) (show RdB _ _ [] from Rd.nil _ _) (show RdB _ _ [] from Rd.nil _ _) (show RdB _ _ [] from Rd.nil _ _) (show RdB _ _ [] from Rd.nil _ _) (show RdB _ _ [] from Rd.nil _ _) (show RdB _ _ [] from Rd.nil _ _) (show RdB _ _ [] from Rd.nil _ _) (show RdB _ _ [] from Rd.nil _ _) (show RdB _ _ [] from Rd.nil _ _) o3.rd o4.rd (show RdB _ _ [] from Rd.nil _ _) (Nat.zero_le _) (Nat.zero_le _) (Nat.zero_le _) (Nat.zero_le _) (Nat.zero_le _) (Nat.zero_le _) (Nat.zero_le _) (Nat.zero_le _) (Nat.zero_le _) (Nat.zero_le _) (Nat.zero_le _) (Nat.zero_le _) hlV hlW (Nat.zero_le _))) rfl ?_)))))
     rintro w39 k33
     replace hb1 := hb1.oC k33
     replace rr := rr.oC k33
     replace o3 := o3.oC k33
     replace o4 := o4.oC k33
     obtain ⟨hB, hb14⟩ := bX k33 hB hb14
     refine a9 [(59, _)] (ad rfl rfl rfl hgc8) ⟨ag rfl, trivial⟩ (fun hw24 => cd rfl) rfl (a7 (bP rfl rfl hgc8) rfl (a6 (af [(2, _), (5, _), (61, _)] ⟨rfl, rfl, rfl, trivial⟩ (bD rfl (fun hc8 => ?_) (fun hc8 => ?_)))))
     ·
      have hd7 := hc8
      try (simp only [Bool.and_eq_true, Bool.or_eq_true, decide_eq_true_eq, Bool.and_eq_false_iff, Bool.or_eq_false_iff, decide_eq_false_iff_not, Bool.not_eq_true', Bool.not_eq_false', Bool.not_eq_true, Bool.not_eq_false, ne_eq, Decidable.not_not, decide_true, decide_false, Bool.true_and, Bool.false_and, Bool.or_false, Bool.false_or, not_true_eq_false, false_or, or_false, true_and, and_true, not_false_eq_true, reduceCtorEq] at hd7)
      refine a5 (aZ (a7 (cA (idx := []) (xs := []) (vs := []) (css := []) (out := [_, _, _, _, _, _, _, _, _, _, _, _, _, _, _, _, _, _, _]) lI bl rfl rfl trivial rfl rfl) rfl (an (bK bl rfl rfl rfl (by simp only [List.forall_mem_cons]; refine ⟨rfl, rfl, rfl, rfl, rfl, rfl, rfl, rfl, rfl, rfl, rfl, rfl, rfl, rfl, rfl, rfl, rfl, rfl, rfl, fun v hv => by cases hv⟩) hb1 rfl) ?_)))
      rintro _ w40 ⟨hb15, k34, z15⟩
      replace o3 := o3.keep k34 (fun x hx hm => sb_b1_o3 x hx (List.mem_singleton.1 hm))
      replace o4 := o4.keep k34 (fun x hx hm => sb_b1_o4 x hx (List.mem_singleton.1 hm))
      replace hb14 := hb14.keep k34 (nm (Ne.symm ne_b1_b2))
      replace hB := hB.new k34 (nw ge_b1)
      clear z15
      replace hb15 : Bk w40 b1 _ [.int .i64 0, .slice none 0 0, .slice none 0 0, .slice none 0 0, .slice none 0 0, .int .i64 0, .slice none 0 0, .slice none 0 0, .slice none 0 0, .slice none 0 0, .slice none 0 0, .slice none 0 0, .int .i64 0, .slice none 0 0, .slice none 0 0, .int .i64 0, .slice none 0 0, .slice none 0 0, .slice none 0 0] := hb15
      refine oga rfl rfl (a6 (bJ hfin Try.results10 rfl (ar dE bl hb15 rfl) rfl ?_))
      have hk : (kyA c).1 = 4 := by assumption
      obtain ⟨e1, e2, e3⟩ := lO hk
      have eX : kyP c = ⟨(kyA c).1, bg, bf, 0, (kyV c).1, (kyW c).1, []⟩ := by rw [hk]; exact e1
      have hok : kgOk c = false := by
       unfold kgOk; rw [eX, e2, e3, gn, show (decide ((0 : Int) ≠ 0) || decide (rEnd (kyW c).2.1 (kyW c).2.2 ≠ 0) || !prOk ⟨(kyA c).1, bg, bf, 0, (kyV c).1, (kyW c).1, []⟩) = true from by assumption]; rfl
      unfold kgR kgE; rw [hok]
      exact ⟨_, _, _, _, _, _, _, _, _, _, _, _, _, _, _, rfl, a8 _ _ _ _, a8 _ _ _ _, a8 _ _ _ _, a8 _ _ _ _, a8 _ _ _ _, a8 _ _ _ _, a8 _ _ _ _, a8 _ _ _ _, a8 _ _ _ _, a8 _ _ _ _, a8 _ _ _ _, a8 _ _ _ _, a8 _ _ _ _, a8 _ _ _ _, a8 _ _ _ _, hB⟩
     ·
      have hd8 := hc8
      try (simp only [Bool.and_eq_true, Bool.or_eq_true, decide_eq_true_eq, Bool.and_eq_false_iff, Bool.or_eq_false_iff, decide_eq_false_iff_not, Bool.not_eq_true', Bool.not_eq_false', Bool.not_eq_true, Bool.not_eq_false, ne_eq, Decidable.not_not, decide_true, decide_false, Bool.true_and, Bool.false_and, Bool.or_false, Bool.false_or, not_true_eq_false, false_or, or_false, true_and, and_true, not_false_eq_true, reduceCtorEq] at hd8)
      refine aj (a5 (aZ (a7 (au (cs' := [_, _, _, _, _, _, _, _, _, _, _, _, _, _, _, _, _, _, _]) dE bl rfl hb14 rfl rfl) rfl (an (bK bl rfl rfl rfl (by simp only [List.forall_mem_cons]; exact ⟨rfl, rfl, rfl, rfl, rfl, rfl, rfl, rfl, rfl, rfl, rfl, rfl, rfl, rfl, rfl, rfl, (Own.rd o3).one, (Own.rd o4).one, rfl, fun v hv => by cases hv⟩) hb1 rfl) ?_))))
      rintro _ w41 ⟨hb16, k35, z16⟩
      replace o3 := o3.keep k35 (fun x hx hm => sb_b1_o3 x hx (List.mem_singleton.1 hm))
      replace o4 := o4.keep k35 (fun x hx hm => sb_b1_o4 x hx (List.mem_singleton.1 hm))
      replace hb14 := hb14.keep k35 (nm (Ne.symm ne_b1_b2))
      replace hB := hB.new k35 (nw ge_b1)
      clear z16
      replace hb16 : Bk w41 b1 _ [.int .i64 (kyA c).1, .slice none 0 0, .slice none 0 0, .slice none 0 0, .slice none 0 0, .int .i64 0, .slice none 0 0, .slice none 0 0, .slice none 0 0, .slice none 0 0, .slice none 0 0, .slice none 0 0, .int .i64 0, .slice none 0 0, .slice none 0 0, .int .i64 0, v3, v4, .slice none 0 0] := hb16
      refine oga rfl rfl (a6 (bJ hfin Try.results10 rfl (ar dE bl hb16 rfl) rfl ?_))
      have hk : (kyA c).1 = 4 := by assumption
      obtain ⟨e1, e2, e3⟩ := lO hk
      have eX : kyP c = ⟨(kyA c).1, bg, bf, 0, (kyV c).1, (kyW c).1, []⟩ := by rw [hk]; exact e1
      have hok : kgOk c = true := by
       unfold kgOk; rw [eX, e2, e3, gn, show (decide ((0 : Int) ≠ 0) || decide (rEnd (kyW c).2.1 (kyW c).2.2 ≠ 0) || !prOk ⟨(kyA c).1, bg, bf, 0, (kyV c).1, (kyW c).1, []⟩) = false from by assumption]; rfl
      rw [show kgR c = ⟨(kyA c).1, bg, bf, 0, (kyV c).1, (kyW c).1, []⟩ from by unfold kgR; rw [hok]; exact eX, show kgE c = 0 from by unfold kgE; rw [hok]; rfl]
      exact ⟨_, _, _, _, _, _, _, _, _, _, _, _, _, _, _, rfl, a8 _ _ _ _, a8 _ _ _ _, a8 _ _ _ _, a8 _ _ _ _, a8 _ _ _ _, a8 _ _ _ _, a8 _ _ _ _, a8 _ _ _ _, a8 _ _ _ _, a8 _ _ _ _, a8 _ _ _ _, a8 _ _ _ _, o3.lo gw_o3, o4.lo gw_o4, a8 _ _ _ _, hB⟩
    ·
     refine a5 (aZ (a7 (bE rfl rfl) rfl (oga rfl rfl (a6 (bF rfl (fun hc9 => ?_) (fun hc9 => ?_))))))
     ·
      refine aZ (ogm rfl rfl ?_)
      have lv_km7 := rr.lt
      have gw_o5 := hB.size
      have lb_o5_b1 := hb1.lt
      have lb_o5_b2 := hb3.lt
      refine ah (ab (vs := [_]) rfl (bY p1 (kyA c).2.1 (kyA c).2.2 _ rr)) rfl ?_
      rintro v5 w42 ⟨_, rfl, o5, rr, km7⟩
      have gl_o5 := hB.size
      have sb_b1_o5 := fun x hx => (show x ≠ b1 from by have h1 := (o5.blk x hx).1; have h2 := hb1.lt; omega)
      have sb_b2_o5 := fun x hx => (show x ≠ b2 from by have h1 := (o5.blk x hx).1; have h2 := hb3.lt; omega)
      have z_km7 := km7.size
      replace hb1 := hb1.keep km7 (fun hm => by have h9 := List.mem_singleton.1 hm; omega)
      replace hb3 := hb3.keep km7 (fun hm => by have h9 := List.mem_singleton.1 hm; omega)
      replace hB := hB.new km7 (fun x hm => .inl (by have h9 := List.mem_singleton.1 hm; omega))
      have rr : RdR w42 p1 (kyV c).2.1 (kyV c).2.2 := rr
      replace o5 : OwnB w42 w5.heap.size v5 (kyV c).1 := o5
      refine a7 (ak aB rfl am (by decide) rfl) rfl (an (bV am rfl rfl (Rd.one (by first | assumption | exact Own.rd ‹_› | exact Rd.oC ‹_› hB | exact Own.rd (Own.oC ‹_› hB))) hb3 rfl) ?_)
      rintro _ w43 ⟨hb17, k36, z17⟩
      replace hb1 := hb1.keep k36 (nm ne_b1_b2)
      replace rr := rr.keep k36 (fun x hx hm => (fun x (hx : x ≤ p1) => (show x ≠ b2 from by omega)) x hx (List.mem_singleton.1 hm))
      replace o5 := o5.keep k36 (fun x hx hm => sb_b2_o5 x hx (List.mem_singleton.1 hm))
      replace hB := hB.new k36 (nw ge_b2)
      clear z17
      replace hb17 : Bk w43 b2 _ [.int .i64 (kyA c).1, .slice none 0 0, .slice none 0 0, .slice none 0 0, .slice none 0 0, .int .i64 0, .slice none 0 0, .slice none 0 0, .slice none 0 0, .slice none 0 0, .slice none 0 0, .slice none 0 0, .int .i64 0, .slice none 0 0, .slice none 0 0, .int .i64 0, .slice none 0 0, .slice none 0 0, v5] := hb17
      refine a6 (af [(2, _), (4, _), (5, _), (6, _)] ⟨rfl, rfl, rfl, rfl, trivial⟩ (cG (a5 (a5 (aZ (ogm rfl rfl (a7 (bn rfl rfl) rfl (ogm rfl rfl (aq 52 false rfl (fun c9 hgc9 => a9 [(4, _)] (ad rfl rfl rfl hgc9) ⟨bB rfl, trivial⟩ (fun hw25 => bC rfl) rfl (cC [(53, _)] (ad rfl rfl rfl hgc9) ⟨ag rfl, trivial⟩ (fun hw26 => ab (vs := [_]) rfl (cl _ _ _ _ rr)) rfl ?_)))))))))))
      rintro w45 k38
      replace hb1 := hb1.oC k38
      replace rr := rr.oC k38
      replace o5 := o5.oC k38
      obtain ⟨hB, hb17⟩ := bX k38 hB hb17
      refine a9 [(54, _)] (ad rfl rfl rfl hgc9) ⟨ag rfl, trivial⟩ (fun hw27 => bn rfl rfl) rfl (a7 (bP rfl rfl hgc9) rfl (ogm rfl rfl (aq 57 false rfl (fun c10 hgc10 => a9 [(5, _)] (ad rfl rfl rfl hgc10) ⟨bB rfl, trivial⟩ (fun hw28 => au (cs' := [_, _, _, _, _, _, _, _, _, _, _, _, _, _, _, _, _, _, _]) dE bl rfl hb17 rfl rfl) rfl (cC [(58, _)] (ad rfl rfl rfl hgc10) ⟨ag rfl, trivial⟩ (fun hw29 => ab (vs := [_]) rfl (cU _ _ _ _ _ _ _ _ _ _ _ _ _ _ _ ⟨(kyA c).1, bg, bf, 0, [], [], (kyV c).1⟩ _ (show RdB _ _ [] from Rd.nil _ _) (show RdB _ _ [] from Rd.nil _ _) (show RdB _ _ [] from Rd.nil _ _) (show RdB _ _ [] from Rd.nil _ _) (show RdB _ _ [] from Rd.nil _ _) (show RdB _ _ [] from Rd.nil _ _) (show RdB _ _ [] from Rd.nil _ _) (show RdB _ _ [] from Rd.nil _ _) (show RdB _ _ [] from Rd.nil _ _) (show RdB _ _ [] from Rd.nil _ _) (show RdB _ _ [] from Rd.nil _ _) (show RdB _ _ [] from Rd.nil _ _) (show RdB _ _ [] from Rd.nil _ _) (show RdB _ _ [] from Rd.nil _ _) o5.rd (Nat.zero_le _) (Nat.zero_le _) (Nat.zero_le _) (Nat.zero_le _) (Nat.zero_le _) (Nat.zero_le _) (Nat.zero_le _) (Nat.zero_le _) (Nat.zero_le _) (Nat.zero_le _) (Nat.zero_le _) (Nat.zero_le _) (Nat.zero_le _) (Nat.zero_le _) hlV)) rfl ?_)))))
      rintro w47 k40
      replace hb1 := hb1.oC k40
      replace rr := rr.oC k40
      replace o5 := o5.oC k40
      obtain ⟨hB, hb17⟩ := bX k40 hB hb17
      refine a9 [(59, _)] (ad rfl rfl rfl hgc10) ⟨ag rfl, trivial⟩ (fun hw30 => cd rfl) rfl (a7 (bP rfl rfl hgc10) rfl (a6 (af [(2, _), (5, _), (61, _)] ⟨rfl, rfl, rfl, trivial⟩ (bD rfl (fun hc10 => ?_) (fun hc10 => ?_)))))
      ·
       have hd9 := hc10
       try (simp only [Bool.and_eq_true, Bool.or_eq_true, decide_eq_true_eq, Bool.and_eq_false_iff, Bool.or_eq_false_iff, decide_eq_false_iff_not, Bool.not_eq_true', Bool.not_eq_false', Bool.not_eq_true, Bool.not_eq_false, ne_eq, Decidable.not_not, decide_true, decide_false, Bool.true_and, Bool.false_and, Bool.or_false, Bool.false_or, not_true_eq_false, false_or, or_false, true_and, and_true, not_false_eq_true, reduceCtorEq] at hd9)
       refine a5 (aZ (a7 (cA (idx := []) (xs := []) (vs := []) (css := []) (out := [_, _, _, _, _, _, _, _, _, _, _, _, _, _, _, _, _, _, _]) lI bl rfl rfl trivial rfl rfl) rfl (an (bK bl rfl rfl rfl (by simp only [List.forall_mem_cons]; refine ⟨rfl, rfl, rfl, rfl, rfl, rfl, rfl, rfl, rfl, rfl, rfl, rfl, rfl, rfl, rfl, rfl, rfl, rfl, rfl, fun v hv => by cases hv⟩) hb1 rfl) ?_)))
       rintro _ w48 ⟨hb18, k41, z18⟩
       replace o5 := o5.keep k41 (fun x hx hm => sb_b1_o5 x hx (List.mem_singleton.1 hm))
       replace hb17 := hb17.keep k41 (nm (Ne.symm ne_b1_b2))
       replace hB := hB.new k41 (nw ge_b1)
       clear z18
       replace hb18 : Bk w48 b1 _ [.int .i64 0, .slice none 0 0, .slice none 0 0, .slice none 0 0, .slice none 0 0, .int .i64 0, .slice none 0 0, .slice none 0 0, .slice none 0 0, .slice none 0 0, .slice none 0 0, .slice none 0 0, .int .i64 0, .slice none 0 0, .slice none 0 0, .int .i64 0, .slice none 0 0, .slice none 0 0, .slice none 0 0] := hb18
       refine oga rfl rfl (a6 (bJ hfin Try.results10 rfl (ar dE bl hb18 rfl) rfl ?_))
       have hk : (kyA c).1 = 6 := by assumption
       obtain ⟨e1, e2, e3⟩ := ky_6 hk
       have eX : kyP c = ⟨(kyA c).1, bg, bf, 0, [], [], (kyV c).1⟩ := by rw [hk]; exact e1
       have hok : kgOk c = false := by
        unfold kgOk; rw [eX, e2, e3, gn, show (decide ((0 : Int) ≠ 0) || decide (rEnd (kyV c).2.1 (kyV c).2.2 ≠ 0) || !prOk ⟨(kyA c).1, bg, bf, 0, [], [], (kyV c).1⟩) = true from by assumption]; rfl
       unfold kgR kgE; rw [hok]
       exact ⟨_, _, _, _, _, _, _, _, _, _, _, _, _, _, _, rfl, a8 _ _ _ _, a8 _ _ _ _, a8 _ _ _ _, a8 _ _ _ _, a8 _ _ _ _, a8 _ _ _ _, a8 _ _ _ _, a8 _ _ _ _, a8 _ _ _ _, a8 _ _ _ _, a8 _ _ _ _, a8 _ _ _ _, a8 _ _ _ _, a8 _ _ _ _, a8 _ _ _ _, hB⟩
      ·
       have hd10 := hc10
       try (simp only [Bool.and_eq_true, Bool.or_eq_true, decide_eq_true_eq, Bool.and_eq_false_iff, Bool.or_eq_false_iff, decide_eq_false_iff_not, Bool.not_eq_true', Bool.not_eq_false', Bool.not_eq_true, Bool.not_eq_false, ne_eq, Decidable.not_not, decide_true, decide_false, Bool.true_and, Bool.false_and, Bool.or_false, Bool.false_or, not_true_eq_false, false_or, or_false, true_and, and_true, not_false_eq_true, reduceCtorEq] at hd10)
       refine aj (a5 (aZ (a7 (au (cs' := [_, _, _, _, _, _, _, _, _, _, _, _, _, _, _, _, _, _, _]) dE bl rfl hb17 rfl rfl) rfl (an (bK bl rfl rfl rfl (by simp only [List.forall_mem_cons]; exact ⟨rfl, rfl, rfl, rfl, rfl, rfl, rfl, rfl, rfl, rfl, rfl, rfl, rfl, rfl, rfl, rfl, rfl, rfl, (Own.rd o5).one, fun v hv => by cases hv⟩) hb1 rfl) ?_))))
       rintro _ w49 ⟨hb19, k42, z19⟩
       replace o5 := o5.keep k42 (fun x hx hm => sb_b1_o5 x hx (List.mem_singleton.1 hm))
       replace hb17 := hb17.keep k42 (nm (Ne.symm ne_b1_b2))
       replace hB := hB.new k42 (nw ge_b1)
       clear z19
       replace hb19 : Bk w49 b1 _ [.int .i64 (kyA c).1, .slice none 0 0, .slice none 0 0, .slice none 0 0, .slice none 0 0, .int .i64 0, .slice none 0 0, .slice none 0 0, .slice none 0 0, .slice none 0 0, .slice none 0 0, .slice none 0 0, .int .i64 0, .slice none 0 0, .slice none 0 0, .int .i64 0, .slice none 0 0, .slice none 0 0, v5] := hb19
       refine oga rfl rfl (a6 (bJ hfin Try.results10 rfl (ar dE bl hb19 rfl) rfl ?_))
       have hk : (kyA c).1 = 6 := by assumption
       obtain ⟨e1, e2, e3⟩ := ky_6 hk
       have eX : kyP c = ⟨(kyA c).1, bg, bf, 0, [], [], (kyV c).1⟩ := by rw [hk]; exact e1
       have hok : kgOk c = true := by
        unfold kgOk; rw [eX, e2, e3, gn, show (decide ((0 : Int) ≠ 0) || decide (rEnd (kyV c).2.1 (kyV c).2.2 ≠ 0) || !prOk ⟨(kyA c).1, bg, bf, 0, [], [], (kyV c).1⟩) = false from by assumption]; rfl
       rw [show kgR c = ⟨(kyA c).1, bg, bf, 0, [], [], (kyV c).1⟩ from by unfold kgR; rw [hok]; exact eX, show kgE c = 0 from by unfold kgE; rw [hok]; rfl]
       exact ⟨_, _, _, _, _, _, _, _, _, _, _, _, _, _, _, rfl, a8 _ _ _ _, a8 _ _ _ _, a8 _ _ _ _, a8 _ _ _ _, a8 _ _ _ _, a8 _ _ _ _, a8 _ _ _ _, a8 _ _ _ _, a8 _ _ _ _, a8 _ _ _ _, a8 _ _ _ _, a8 _ _ _ _, a8 _ _ _ _, a8 _ _ _ _, o5.lo gw_o5, hB⟩
     ·
      refine aj (cG (a5 (a5 (aZ (ogm rfl rfl (a7 (bn rfl rfl) rfl (ogm rfl rfl (aq 52 false rfl (fun c11 hgc11 => a9 [(4, _)] (ad rfl rfl rfl hgc11) ⟨bB rfl, trivial⟩ (fun hw31 => bC rfl) rfl (cC [(53, _)] (ad rfl rfl rfl hgc11) ⟨ag rfl, trivial⟩ (fun hw32 => ab (vs := [_]) rfl (cl _ _ _ _ rr)) rfl ?_))))))))))
      rintro w51 k44
      replace hb1 := hb1.oC k44
      replace rr := rr.oC k44
      obtain ⟨hB, hb3⟩ := bX k44 hB hb3
      refine a9 [(54, _)] (ad rfl rfl rfl hgc11) ⟨ag rfl, trivial⟩ (fun hw33 => bn rfl rfl) rfl (a7 (bP rfl rfl hgc11) rfl (ogm rfl rfl (aq 57 false rfl (fun c12 hgc12 => a9 [(5, _)] (ad rfl rfl rfl hgc12) ⟨bB rfl, trivial⟩ (fun hw34 => au (cs' := [_, _, _, _, _, _, _, _, _, _, _, _, _, _, _, _, _, _, _]) dE bl rfl hb3 rfl rfl) rfl (cC [(58, _)] (ad rfl rfl rfl hgc12) ⟨ag rfl, trivial⟩ (fun hw35 => ab (vs := [_]) rfl (cU _ _ _ _ _ _ _ _ _ _ _ _ _ _ _ ⟨(kyA c).1, bg, bf, 0, [], [], []⟩ _ (show RdB _ _ [] from Rd.nil _ _) (show RdB _ _ [] from Rd.nil _ _) (show RdB _ _ [] from Rd.nil _ _) (show RdB _ _ [] from Rd.nil _ _) (show RdB _ _ [] from Rd.nil _ _) (show RdB _ _ [] from Rd.nil _ _) (show RdB _ _ [] from Rd.nil _ _) (show RdB _ _ [] from Rd.nil _ _) (show RdB _ _ [] from Rd.nil _ _) (show RdB _ _ [] from Rd.nil _ _) (show RdB _ _ [] from Rd.nil _ _) (show RdB _ _ [] from Rd.nil _ _) (show RdB _ _ [] from Rd.nil _ _) (show RdB _ _ [] from Rd.nil _ _) (show RdB _ _ [] from Rd.nil _ _) (Nat.zero_le _) (Nat.zero_le _) (Nat.zero_le _) (Nat.zero_le _) (Nat.zero_le _) (Nat.zero_le _) (Nat.zero_le _) (Nat.zero_le _) (Nat.zero_le _) (Nat.zero_le _) (Nat.zero_le _) (Nat.zero_le _) (Nat.zero_le _) (Nat.zero_le _) (Nat.zero_le _))) rfl ?_)))))
      rintro w53 k46
      replace hb1 := hb1.oC k46
      replace rr := rr.oC k46
      obtain ⟨hB, hb3⟩ := bX k46 hB hb3
      refine a9 [(59, _)] (ad rfl rfl rfl hgc12) ⟨ag rfl, trivial⟩ (fun hw36 => cd rfl) rfl (a7 (bP rfl rfl hgc12) rfl (a6 (af [(2, _), (5, _), (61, _)] ⟨rfl, rfl, rfl, trivial⟩ (bD rfl (fun hc11 => ?_) (fun hc11 => ?_)))))
      ·
       have hd11 := hc11
       try (simp only [Bool.and_eq_true, Bool.or_eq_true, decide_eq_true_eq, Bool.and_eq_false_iff, Bool.or_eq_false_iff, decide_eq_false_iff_not, Bool.not_eq_true', Bool.not_eq_false', Bool.not_eq_true, Bool.not_eq_false, ne_eq, Decidable.not_not, decide_true, decide_false, Bool.true_and, Bool.false_and, Bool.or_false, Bool.false_or, not_true_eq_false, false_or, or_false, true_and, and_true, not_false_eq_true, reduceCtorEq] at hd11)
       refine a5 (aZ (a7 (cA (idx := []) (xs := []) (vs := []) (css := []) (out := [_, _, _, _, _, _, _, _, _, _, _, _, _, _, _, _, _, _, _]) lI bl rfl rfl trivial rfl rfl) rfl (an (bK bl rfl rfl rfl (by simp only [List.forall_mem_cons]; refine ⟨rfl, rfl, rfl, rfl, rfl, rfl, rfl, rfl, rfl, rfl, rfl, rfl, rfl, rfl, rfl, rfl, rfl, rfl, rfl, fun v hv => by cases hv⟩) hb1 rfl) ?_)))
       rintro _ w54 ⟨hb20, k47, z20⟩
       replace hb3 := hb3.keep k47 (nm (Ne.symm ne_b1_b2))
       replace hB := hB.new k47 (nw ge_b1)
       clear z20
       replace hb20 : Bk w54 b1 _ [.int .i64 0, .slice none 0 0, .slice none 0 0, .slice none 0 0, .slice none 0 0, .int .i64 0, .slice none 0 0, .slice none 0 0, .slice none 0 0, .slice none 0 0, .slice none 0 0, .slice none 0 0, .int .i64 0, .slice none 0 0, .slice none 0 0, .int .i64 0, .slice none 0 0, .slice none 0 0, .slice none 0 0] := hb20
       refine oga rfl rfl (a6 (bJ hfin Try.results10 rfl (ar dE bl hb20 rfl) rfl ?_))
       obtain ⟨e1, e2, e3⟩ := ky_n (c := c) ‹_› ‹_› ‹_› ‹_› ‹_›
       have eX : kyP c = ⟨(kyA c).1, bg, bf, 0, [], [], []⟩ := e1
       have hok : kgOk c = false := by
        unfold kgOk; rw [eX, e2, e3, gn, show (decide ((0 : Int) ≠ 0) || decide (rEnd (kyA c).2.1 (kyA c).2.2 ≠ 0) || !prOk ⟨(kyA c).1, bg, bf, 0, [], [], []⟩) = true from by assumption]; rfl
       unfold kgR kgE; rw [hok]
       exact ⟨_, _, _, _, _, _, _, _, _, _, _, _, _, _, _, rfl, a8 _ _ _ _, a8 _ _ _ _, a8 _ _ _ _, a8 _ _ _ _, a8 _ _ _ _, a8 _ _ _ _, a8 _ _ _ _, a8 _ _ _ _, a8 _ _ _ _, a8 _ _ _ _, a8 _ _ _ _, a8 _ _ _ _, a8 _ _ _ _, a8 _ _ _ _, a8 _ _ _ _, hB⟩
      ·
       have hd12 := hc11
       try (simp only [Bool.and_eq_true, Bool.or_eq_true, decide_eq_true_eq, Bool.and_eq_false_iff, Bool.or_eq_false_iff, decide_eq_false_iff_not, Bool.not_eq_true', Bool.not_eq_false', Bool.not_eq_true, Bool.not_eq_false, ne_eq, Decidable.not_not, decide_true, decide_false, Bool.true_and, Bool.false_and, Bool.or_false, Bool.false_or, not_true_eq_false, false_or, or_false, true_and, and_true, not_false_eq_true, reduceCtorEq] at hd12)
       refine aj (a5 (aZ (a7 (au (cs' := [_, _, _, _, _, _, _, _, _, _, _, _, _, _, _, _, _, _, _]) dE bl rfl hb3 rfl rfl) rfl (an (bK bl rfl rfl rfl (by simp only [List.forall_mem_cons]; refine ⟨rfl, rfl, rfl, rfl, rfl, rfl, rfl, rfl, rfl, rfl, rfl, rfl, rfl, rfl, rfl, rfl, rfl, rfl, rfl, fun v hv => by cases hv⟩) hb1 rfl) ?_))))
       rintro _ w55 ⟨hb21, k48, z21⟩
       replace hb3 := hb3.keep k48 (nm (Ne.symm ne_b1_b2))
       replace hB := hB.new k48 (nw ge_b1)
       clear z21
       replace hb21 : Bk w55 b1 _ [.int .i64 (kyA c).1, .slice none 0 0, .slice none 0 0, .slice none 0 0, .slice none 0 0, .int .i64 0, .slice none 0 0, .slice none 0 0, .slice none 0 0, .slice none 0 0, .slice none 0 0, .slice none 0 0, .int .i64 0, .slice none 0 0, .slice none 0 0, .int .i64 0, .slice none 0 0, .slice none 0 0, .slice none 0 0] := hb21
       refine oga rfl rfl (a6 (bJ hfin Try.results10 rfl (ar dE bl hb21 rfl) rfl ?_))
       obtain ⟨e1, e2, e3⟩ := ky_n (c := c) ‹_› ‹_› ‹_› ‹_› ‹_›
       have eX : kyP c = ⟨(kyA c).1, bg, bf, 0, [], [], []⟩ := e1
       have hok : kgOk c = true := by
        unfold kgOk; rw [eX, e2, e3, gn, show (decide ((0 : Int) ≠ 0) || decide (rEnd (kyA c).2.1 (kyA c).2.2 ≠ 0) || !prOk ⟨(kyA c).1, bg, bf, 0, [], [], []⟩) = false from by assumption]; rfl
       rw [show kgR c = ⟨(kyA c).1, bg, bf, 0, [], [], []⟩ from by unfold kgR; rw [hok]; exact eX, show kgE c = 0 from by unfold kgE; rw [hok]; rfl]
       exact ⟨_, _, _, _, _, _, _, _, _, _, _, _, _, _, _, rfl, a8 _ _ _ _, a8 _ _ _ _, a8 _ _ _ _, a8 _ _ _ _, a8 _ _ _ _, a8 _ _ _ _, a8 _ _ _ _, a8 _ _ _ _, a8 _ _ _ _, a8 _ _ _ _, a8 _ _ _ _, a8 _ _ _ _, a8 _ _ _ _, a8 _ _ _ _, a8 _ _ _ _, hB⟩
end Go.Proofs.Ytonchmcppekldaa.W
namespace Go.Eng
open Go
section
variable {P : Program} {n : NN} {fin : Exit → Act → World → Prop} {k : List KI} {f : Fr} {w : World}
def updV (vs : Nat → Value) (i : Nat) (v : Value) : Nat → Value := fun j => bif Nat.beq j i then v else vs j
def ObV (P : Program) (n : NN) (l : List Oper) (f0 : Fr) (S : Nat → Value → Prop) (J : (Nat → Bool) → (Nat → Value) → World → Prop) (i : Nat) (o : Oper) : Prop :=
 ∃ deps : List Nat, depOk l i deps = true ∧ ∀ (L : Nat → Bool) (w : World) (vs : Nat → Value), L i = false → (∀ j, j ∈ deps → L j = true) → J L vs w → (∀ j, j ∈ deps → S j (vs j)) →
   ∃ c : Bool, (∀ a, Kn n (depFr l vs deps ++ f0) a → Region.wanted o (yielded l.toArray a.tmps) = c) ∧
     (c = true → Does P n (depFr l vs deps ++ f0) w o.op o.type (fun v w' => S i v ∧ J (updL L i) (updV vs i v) w')) ∧ (c = false → S i undef ∧ J (updL L i) (updV vs i undef) w)
def ObsV (P : Program) (n : NN) (l : List Oper) (f0 : Fr) (S : Nat → Value → Prop) (J : (Nat → Bool) → (Nat → Value) → World → Prop) : Nat → List Oper → Prop
 | _, [] => True
 | i, o :: r => ObV P n l f0 S J i o ∧ ObsV P n l f0 S J (i + 1) r
theorem ObsV.get {l : List Oper} {f0 : Fr} {S : Nat → Value → Prop} {J : (Nat → Bool) → (Nat → Value) → World → Prop} : ∀ {r : List Oper} {i : Nat}, ObsV P n l f0 S J i r → ∀ (k : Nat) (o : Oper), r[k]? = some o → ObV P n l f0 S J (i + k) o
 | [], _, _, k, o, h => by simp at h
 | x :: r, i, ⟨h1, h2⟩, 0, o, h => by simp at h; subst h; exact h1
 | x :: r, i, ⟨h1, h2⟩, k + 1, o, h => by
   have := ObsV.get h2 k o (by simpa using h)
   rwa [Nat.add_assoc, Nat.add_comm 1 k] at this
theorem fS {id : Nat} {l : List Oper} (p : Nat) (hm : P.follows .mixedOrders = true) (f0 : Fr) (S : Nat → Value → Prop) (J : (Nat → Bool) → (Nat → Value) → World → Prop) (hf : Fr.sub f0 f) (hok : drawOk n l = true) (ht : dG l p = true) (hfree0 : freeOk (l.take p) f0 = true)
   (hJ0 : ∀ vs, J (fun _ => false) vs w.drew) (hJc : ∀ L vs vs' w', (∀ j, L j = true → hasDst l j = true → vs j = vs' j) → J L vs w' → J L vs' w')
   (hob : ObsV P n l f0 S J 0 (l.take p))
   (h : ∀ w' L, (∀ i, i < p → L i = true) → ∀ vs : Nat → Value, J L vs w' → (∀ i, i < p → hasDst l i = true → S i (vs i)) → OW P fin n k l.toArray (l.drop p) (depFr l vs ((List.range p).filter (hasDst l)) ++ f0) w') :
   TW P fin n (.c (.region id l.toArray true) :: k) f w := by
 intro a ha
 simp only [KQ]
 have ha0 := ha.sub hf
 have hfree : ∀ i, i < p → i < l.length → hasDst l i = true → f0.get (dstOf l i) = none := by
   intro i hi hl hd
   have e1 : dstOf (l.take p) i = dstOf l i := by unfold dstOf; rw [List.getElem?_take, if_pos hi]
   have e2 : hasDst (l.take p) i = hasDst l i := by unfold hasDst; rw [List.getElem?_take, if_pos hi]
   rw [← e1]
   exact bu (l := l.take p) (by rw [List.length_take]; omega) (by rw [e2]; exact hd) hfree0
 refine wp_region_any hm ?_
 have hpl : p ≤ l.length := by simp only [dG, Bool.and_eq_true] at ht; exact Nat.le_of_ble_eq_true ht.1.1
 have hend : ∀ (fuel : Nat) (listed : Array Bool) (L : Nat → Bool) (a : Act) (w' : World), listed.size = l.length → left l.length listed ≤ fuel → Kn n f0 a → (∀ i, L i = listed.getD i false) → J L (fun i => a.tmps.getD (dstOf l i) undef) w' → (∀ i, i < l.length → listed.getD i false = decide (i < p)) →
     (∀ i, listed.getD i false = true → i < l.length ∧ (hasDst l i = true → S i (a.tmps.getD (dstOf l i) undef))) → wpAny P .any l.toArray (KQ P fin k) fuel listed a w' := by
   intro fuel listed L a w' hs hle hk hL hw hall hS
   refine du hok ht (l.length - p) p fuel listed a w' rfl hpl (Nat.le_refl _) ?_ hs hall ?_
   · refine Nat.le_trans ?_ hle
     unfold left
     have e1 : l.length - p = ((List.range' p (l.length - p)).countP fun i => !listed.getD i true) := by
       rw [List.countP_eq_length.2 (fun i hi => ?_)]
       · simp
       · rw [List.mem_range'_1] at hi
         rw [bR hs (by omega) true false, hall i (by omega)]; simp; omega
     rw [e1]
     have e2 : List.range l.length = List.range p ++ List.range' p (l.length - p) := by
       have e3 := List.range'_append_1 (s := 0) (m := p) (n := l.length - p)
       rw [Nat.zero_add] at e3
       rw [List.range_eq_range', List.range_eq_range', e3]; congr 1; omega
     rw [e2, List.countP_append]; omega
   · refine h w' L (fun i hi => by rw [hL, hall i (by omega)]; simpa using hi) (fun i => a.tmps.getD (dstOf l i) undef) hw (fun i hi => (hS i (by rw [hall i (by omega)]; simpa using hi)).2) a (Kn.app ?_ hk)
     intro q hq
     obtain ⟨j, _, rfl⟩ := cR hq
     rfl
 have key : ∀ (fuel : Nat) (listed : Array Bool) (L : Nat → Bool) (a : Act) (w' : World), listed.size = l.length → (∀ i, L i = listed.getD i false) → left l.length listed ≤ fuel → Kn n f0 a → J L (fun i => a.tmps.getD (dstOf l i) undef) w' → (∀ i, p ≤ i → i < l.length → listed.getD i false = false) → (∀ m j, listed.getD m false = true → depB l m j = true → listed.getD j false = true) →
     (∀ i, listed.getD i false = true → i < l.length ∧ (hasDst l i = true → S i (a.tmps.getD (dstOf l i) undef))) → wpAny P .any l.toArray (KQ P fin k) fuel listed a w' := by
   intro fuel
   induction fuel with
   | zero =>
     intro listed L a w' hs hL hle hk hw hun hcl hS
     refine hend 0 listed L a w' hs hle hk hL hw (fun i hi => ?_) hS
     cases hc : listed.getD i false with
     | true => by_cases h1 : i < p
               · simp [h1]
               · rw [hun i (by omega) hi] at hc; cases hc
     | false =>
       exfalso
       have := cc hi hs (by rw [bR hs hi true false]; exact hc)
       omega
   | succ fuel ih =>
     intro listed L a w' hs hL hle hk hw hun hcl hS
     by_cases hfull : ∀ i, i < p → listed.getD i false = true
     · refine hend (fuel + 1) listed L a w' hs hle hk hL hw (fun i hi => ?_) hS
       by_cases h1 : i < p
       · rw [hfull i h1]; simp [h1]
       · rw [hun i (by omega) hi]; simp [h1]
     · obtain ⟨q, hq⟩ := Classical.not_forall.1 hfull
       obtain ⟨hq1, hq2⟩ := Classical.not_imp.1 hq
       have hq2 : listed.getD q false = false := eq_false_of_ne_true hq2
       refine ⟨fun hr => (by
         have := dP hok rfl hs hr q (by omega)
         rw [hq2] at this; cases this), fun i hi => ?_⟩
       obtain ⟨h0, o, ho, hedge⟩ := mem_ready.1 hi
       have ho' : l[i]? = some o := by simpa using ho
       have hlt : i < l.length := (List.getElem?_eq_some_iff.1 ho').1
       have hip : i < p := by
         rcases Nat.lt_or_ge i p with h1 | h1
         · exact h1
         · exfalso
           have hdepl : ∀ j, depB l i j = true → listed.getD j false = true := by
             intro j hd
             obtain ⟨o', ho2, e, he, h3, h4⟩ := fP hd
             rw [ho'] at ho2
             obtain rfl := Option.some.inj ho2
             have := hedge e he h4
             rwa [h3] at this
           rcases Nat.lt_or_ge p i with h8 | h8
           · have := hdepl _ (eZ ht hlt h8)
             rw [hun (i - 1) (by omega) (by omega)] at this; cases this
           · have hpi : i = p := by omega
             have := gP (S := fun j => listed.getD j false = true) ht (by omega) (fun m j hm hd => hm.elim (fun e => hdepl j (by rw [hpi, ← e]; exact hd)) (fun hl => hcl m j hl hd)) _ q hq1 rfl
             rw [hq2] at this; cases this
       have hobi := ObsV.get hob i o (by rw [List.getElem?_take, if_pos hip]; exact ho')
       rw [Nat.zero_add] at hobi
       obtain ⟨deps, hdep, hobl⟩ := hobi
       have h1 := List.all_eq_true.1 hok i (List.mem_range.2 hlt)
       simp only [ho', Bool.and_eq_true] at h1
       obtain ⟨⟨hd2, _⟩, hd4⟩ := h1
       have hLi : L i = false := by rw [hL, bR hs hlt false true]; exact h0
       have hdl : ∀ j, j ∈ deps → listed.getD j false = true := by
         intro j hj
         have h2 := List.all_eq_true.1 hdep j hj
         simp only [ho', Bool.and_eq_true] at h2
         obtain ⟨e, he, h3⟩ := List.any_eq_true.1 h2.2
         simp only [Bool.and_eq_true, beq_iff_eq] at h3
         have := hedge e (Array.mem_toList_iff.1 he) h3.2
         rwa [h3.1] at this
       have hdeps : ∀ j, j ∈ deps → S j (a.tmps.getD (dstOf l j) undef) := by
         intro j hj
         have h2 := List.all_eq_true.1 hdep j hj
         simp only [ho', Bool.and_eq_true] at h2
         exact (hS j (hdl j hj)).2 h2.1
       obtain ⟨c, hc1, hc2, hc3⟩ := hobl L w' (fun j => a.tmps.getD (dstOf l j) undef) hLi (fun j hj => by rw [hL]; exact hdl j hj) hw hdeps
       have hkd : Kn n (depFr l (fun j => a.tmps.getD (dstOf l j) undef) deps ++ f0) a := Kn.app (fun p hp => by
         obtain ⟨j, _, rfl⟩ := cR hp; rfl) hk
       have hL' : ∀ j, updL L i j = (listed.setIfInBounds i true).getD j false := by
         intro j
         unfold updL
         by_cases hij : j = i
         · subst hij
           have : Nat.beq j j = true := Nat.beq_refl j
           rw [this, Array.getD_eq_getD_getElem?]
           simp [hs, hlt]
         · have : Nat.beq j i = false := by
             cases hb : Nat.beq j i with
             | false => rfl
             | true => exact absurd (Nat.eq_of_beq_eq_true hb) hij
           rw [this, getD_set_ne false (Ne.symm hij), cond_false, hL]
       have hleft := cc hlt hs h0
       have hun' : ∀ j, p ≤ j → j < l.length → (listed.setIfInBounds i true).getD j false = false := fun j h1 h2 => by rw [getD_set_ne false (by omega)]; exact hun j h1 h2
       have hcl' : ∀ m j, (listed.setIfInBounds i true).getD m false = true → depB l m j = true → (listed.setIfInBounds i true).getD j false = true := by
         intro m j hm hd
         have hone : (listed.setIfInBounds i true).getD i false = true := by rw [Array.getD_eq_getD_getElem?]; simp [hs, hlt]
         have hup : listed.getD j false = true → (listed.setIfInBounds i true).getD j false = true := by
           intro h
           by_cases hij : i = j
           · subst hij; exact hone
           · rw [getD_set_ne false hij]; exact h
         by_cases him : i = m
         · subst him
           obtain ⟨o', ho2, e, he, h3, h4⟩ := fP hd
           rw [ho'] at ho2
           obtain rfl := Option.some.inj ho2
           have := hedge e he h4
           rw [h3] at this
           exact hup this
         · rw [getD_set_ne false him] at hm
           exact hup (hcl m j hm hd)
       have hnext : ∀ v w2, S i v → J (updL L i) (updV (fun j => a.tmps.getD (dstOf l j) undef) i v) w2 → wpAny P .any l.toArray (KQ P fin k) fuel (listed.setIfInBounds i true) (a.put o.dst v) w2 := by
         intro v w2 hSv hJv
         cases hod : o.dst with
         | none =>
           refine ih _ (updL L i) _ _ (by simpa using hs) hL' (by omega) hk (hJc _ _ _ _ (fun j hj hdj => ?_) hJv) hun' hcl' ?_
           · have hji : Nat.beq j i = false := by
               cases hb : Nat.beq j i with
               | false => rfl
               | true =>
                 have := Nat.eq_of_beq_eq_true hb; subst this
                 simp [hasDst, ho', hod] at hdj
             show (bif Nat.beq j i then v else a.tmps.getD (dstOf l j) undef) = a.tmps.getD (dstOf l j) undef
             rw [hji]; rfl
           · intro j hj
             by_cases hij : i = j
             · subst hij
               exact ⟨hlt, fun hd => by simp [hasDst, ho', hod] at hd⟩
             · rw [getD_set_ne false hij] at hj
               exact hS j hj
         | some d =>
           have hdd : dstOf l i = d := by simp [dstOf, ho', hod]
           have hhd : hasDst l i = true := by simp [hasDst, ho', hod]
           rw [hdd] at hd2
           have hdn : d < n := bp hd2
           have hsame : (a.put (some d) v).tmps.getD d undef = v := by simp [Act.put, Array.getD_eq_getD_getElem?, hk.size, hdn]
           have hother : ∀ j, i ≠ j → j < l.length → hasDst l j = true → (a.put (some d) v).tmps.getD (dstOf l j) undef = a.tmps.getD (dstOf l j) undef := by
             intro j hij hjl hdj
             have hne : d ≠ dstOf l j := by
               rw [hod] at hd4
               have h6 : ∀ x, x < l.length → (i = x ∨ ¬ dstOf l i = dstOf l x) ∨ hasDst l x = false := by simpa using hd4
               rcases h6 j hjl with (h7 | h7) | h7
               · exact absurd h7 hij
               · rwa [hdd] at h7
               · rw [hdj] at h7; cases h7
             simp only [Act.put, Array.getD_eq_getD_getElem?]; rw [Array.getElem?_setIfInBounds_ne hne]
           refine ih _ (updL L i) _ _ (by simpa using hs) hL' (by omega) (hk.putOther (by rw [← hdd]; exact hfree i hip hlt hhd) v) (hJc _ _ _ _ (fun j hj hdj => ?_) hJv) hun' hcl' ?_
           · by_cases hij : i = j
             · subst hij
               show (bif Nat.beq i i then v else _) = _
               rw [Nat.beq_refl, cond_true, hdd, hsame]
             · have hji : Nat.beq j i = false := by
                 cases hb : Nat.beq j i with
                 | false => rfl
                 | true => exact absurd (Nat.eq_of_beq_eq_true hb).symm hij
               have hj2 : listed.getD j false = true := by
                 have := hL' j; rw [hj, getD_set_ne false hij] at this; exact this.symm
               show (bif Nat.beq j i then v else a.tmps.getD (dstOf l j) undef) = _
               rw [hji, cond_false, hother j hij (hS j hj2).1 hdj]
           · intro j hj
             by_cases hij : i = j
             · subst hij
               refine ⟨hlt, fun _ => ?_⟩
               rw [hdd, hsame]; exact hSv
             · rw [getD_set_ne false hij] at hj
               obtain ⟨hjl, hSj⟩ := hS j hj
               exact ⟨hjl, fun hdj => by rw [hother j hij hjl hdj]; exact hSj hdj⟩
       unfold wpOp
       rw [ho]
       simp only
       rw [hc1 a hkd]
       cases c with
       | true =>
         rw [if_pos rfl]
         exact .inl (hc2 rfl a hkd o.dst o.pos o.after o.guard _ _ (fun v w2 hv => hnext v w2 hv.1 hv.2))
       | false =>
         rw [if_neg (by simp)]
         exact hnext undef w' (hc3 rfl).1 (hc3 rfl).2
 refine key _ _ (fun _ => false) a _ (by simp) ?_ ?_ ha0 (hJ0 _) ?_ ?_ ?_
 · intro i
   rw [Array.getD_eq_getD_getElem?]
   rcases Nat.lt_or_ge i l.toArray.size with h' | h'
   · rw [Array.getElem?_eq_getElem (by simpa using h')]; simp
   · rw [Array.getElem?_eq_none (by simpa using h')]; rfl
 · unfold left
   have := List.countP_le_length (p := fun i => !(Array.replicate l.toArray.size false).getD i true) (l := List.range l.length)
   simpa using this
 · intro i _ hi
   rw [Array.getD_eq_getD_getElem?, Array.getElem?_eq_getElem (by simpa using hi)]; simp
 · intro i j hi
   exfalso
   rw [Array.getD_eq_getD_getElem?] at hi
   rcases Nat.lt_or_ge i l.toArray.size with h' | h'
   · rw [Array.getElem?_eq_getElem (by simpa using h')] at hi; simp at hi
   · rw [Array.getElem?_eq_none (by simpa using h')] at hi; simp at hi
 · intro i hi
   exfalso
   rw [Array.getD_eq_getD_getElem?] at hi
   rcases Nat.lt_or_ge i l.toArray.size with h' | h'
   · rw [Array.getElem?_eq_getElem (by simpa using h')] at hi; simp at hi
   · rw [Array.getElem?_eq_none (by simpa using h')] at hi; simp at hi
end
open Go.MapKept Go.ChangeMaps
def MpI (vl : Int → Bool) (ks : Int → Prop) (es : Array MapEntry) (clock : Nat) : Prop :=
 Stamped es clock ∧ (∀ e ∈ es.toList, ∃ x : Int, e.key = .int .i64 x ∧ e.val = .bool (vl x)) ∧ ∀ x, ks x → ∃ e ∈ es.toList, e.key = .int .i64 x
def MpB (w : World) (m : Nat) (vl : Int → Bool) (ks : Int → Prop) : Prop := ∃ es clock, w.heap[m]? = some (.map es clock) ∧ MpI vl ks es clock
theorem MpB.lt {w : World} {m : Nat} {vl : Int → Bool} {ks : Int → Prop} (h : MpB w m vl ks) : m < w.heap.size := by
 obtain ⟨es, c, h, _⟩ := h
 exact (Array.getElem?_eq_some_iff.1 h).1
theorem MpB.keep {S : List Nat} {w w' : World} {m : Nat} {vl : Int → Bool} {ks : Int → Prop} (h : MpB w m vl ks) (k : Keep S w w') (hn : m ∉ S) : MpB w' m vl ks := by
 have hl := h.lt
 obtain ⟨es, c, h, h2⟩ := h
 exact ⟨es, c, by rw [k.block m hl hn]; exact h, h2⟩
theorem MpB.sub {w : World} {m : Nat} {vl : Int → Bool} {ks ks' : Int → Prop} (h : MpB w m vl ks) (hs : ∀ x, ks' x → ks x) : MpB w m vl ks' := by
 obtain ⟨es, c, h, h1, h2, h3⟩ := h
 exact ⟨es, c, h, h1, h2, fun x hx => h3 x (hs x hx)⟩
theorem mpB_new (w : World) (vl : Int → Bool) (ks : Int → Prop) (hk : ∀ x, ¬ ks x) : MpB (w.alloc (.map #[] 0)) w.heap.size vl ks :=
 ⟨#[], 0, (heap_alloc w _).1, stamped_empty 0, (by simp), fun x hx => absurd hx (hk x)⟩
theorem al_new (w : World) (o : Obj) : (w.alloc o).heap[w.heap.size]? = some o := by
 show (w.heap.push o)[w.heap.size]? = _
 simp
theorem al_old (w : World) (o : Obj) {r : Nat} (h : r < w.heap.size) : (w.alloc o).heap[r]? = w.heap[r]? := by
 show (w.heap.push o)[r]? = _
 rw [Array.getElem?_push_lt h, Array.getElem?_eq_getElem h]
theorem eD (w : World) (m : Nat) (o : Obj) : Keep [m] w (setBlock w m o) :=
 ⟨rfl, rfl, rfl, by simp [setBlock], fun k _ hn => by
   have : m ≠ k := fun e => hn (by simp [e])
   simp [setBlock, this]⟩
section
variable {P : Program} {n : NN} {f : Fr} {w : World} {ty : TypeId}
theorem run_ins {t kt et : TypeId} {m : Nat} {vl : Int → Bool} {ks : Int → Prop} {x : Int} (ht : P.underlying t = some (.map kt et)) (hk : P.underlying kt = some (.int .i64)) (h : MpB w m vl ks) :
   ∃ w', (Instr.mapUpdate t (.map (some m)) (.int .i64 x) (.bool (vl x))).run P w = .ok () w' ∧ Keep [m] w w' ∧ MpB w' m vl (fun y => y = x ∨ ks y) := by
 obtain ⟨es, clock, hb, hs, hv, hks⟩ := h
 have hkey : ∀ e ∈ es.toList, IsKey (.int .i64) e.key := fun e he => by obtain ⟨y, hy, _⟩ := hv e he; rw [hy]; rfl
 have hx : IsKey (.int .i64) (.int .i64 x) := rfl
 rcases findNow_spec hx es.toList 0 hkey with ⟨h1, h2⟩ | ⟨j, e, h1, h2, h3⟩
 · refine ⟨setBlock w m (.map (es.push { key := .int .i64 x, val := .bool (vl x), born := clock }) (clock + 1)), ?_, eD _ _ _, _, _, (heap_set hb).1, stamped_push hs h2, ?_, ?_⟩
   · simp [Instr.mapUpdate, run_underlying ht, MapKept.run_getObj_map hb, run_checkKey hk hx, run_findKey hk h1, MapKept.run_setObj_map _ hb, Result.andThen, setBlock]
   · intro e he
     simp only [Array.toList_push, List.mem_append, List.mem_singleton] at he
     rcases he with he | rfl
     · exact hv e he
     · exact ⟨x, rfl, rfl⟩
   · intro y hy
     simp only [Array.toList_push, List.mem_append, List.mem_singleton]
     rcases hy with rfl | hy
     · exact ⟨_, .inr rfl, rfl⟩
     · obtain ⟨e, he, hk2⟩ := hks y hy
       exact ⟨e, .inl he, hk2⟩
 · have hj : es[j]? = some e := by simpa using h2
   have hkk : ∀ e', es[j]? = some e' → ({ e' with key := .int .i64 x, val := .bool (vl x) } : MapEntry).key = e'.key := fun e' he' => by rw [hj] at he'; cases he'; exact h3.symm
   refine ⟨setBlock w m (.map (es.modify j fun e => { e with key := .int .i64 x, val := .bool (vl x) }) clock), ?_, eD _ _ _, _, _, (heap_set hb).1, stamped_modify hs _ _ (fun _ _ => rfl) (fun e' _ he' => hkk e' he'), ?_, ?_⟩
   · simp [Instr.mapUpdate, run_underlying ht, MapKept.run_getObj_map hb, run_checkKey hk hx, run_findKey hk h1, hj, h3, run_keyThatStays hx, MapKept.run_setObj_map _ hb, Result.andThen, setBlock]
   · intro e' he'
     rcases Go.MapFrom.mem_modify he' with he' | ⟨e2, he2, rfl⟩
     · exact hv e' he'
     · exact ⟨x, rfl, rfl⟩
   · intro y hy
     have hm : (es.modify j fun e => { e with key := .int .i64 x, val := .bool (vl x) }).toList.map (·.key) = es.toList.map (·.key) := modify_keys j _ hkk
     have : (Value.int .i64 y) ∈ es.toList.map (·.key) := by
       rcases hy with rfl | hy
       · exact List.mem_map.2 ⟨e, Go.MapFrom.at_mem hj, h3⟩
       · obtain ⟨e2, he2, hk2⟩ := hks y hy
         exact List.mem_map.2 ⟨e2, he2, hk2⟩
     rw [← hm] at this
     obtain ⟨e2, he2, hk2⟩ := List.mem_map.1 this
     exact ⟨e2, he2, hk2⟩
theorem kc {t kt et : TypeId} {x y z : Operand} {m : Nat} {vl : Int → Bool} {ks : Int → Prop} {a : Int} {b : Bool} (ht : P.underlying t = some (.map kt et)) (hk : P.underlying kt = some (.int .i64)) (hx : f.ev x = some (.map (some m))) (hy : f.ev y = some (.int .i64 a)) (hz : f.ev z = some (.bool b)) (hb : b = vl a) (h : MpB w m vl ks) :
   Does P n f w (.insert t x y z) ty (fun _ w' => Keep [m] w w' ∧ MpB w' m vl (fun y => y = a ∨ ks y)) := by
 subst hb
 intro ac ha dst pos aft g K Q hK
 obtain ⟨w', hrun, h1, h2⟩ := run_ins (x := a) ht hk h
 unfold Oper.wp
 simp [execOp, ha.ev hx, ha.ev hy, ha.ev hz, hrun, Result.andThen]
 exact hK _ _ ⟨h1, h2⟩
theorem d_mkm {t : TypeId} (vl : Int → Bool) : Does P n f w (.makeMap t none) ty (fun v w' => v = .map (some w.heap.size) ∧ Keep [] w w' ∧ ∀ ks : Int → Prop, (∀ x, ¬ ks x) → MpB w' w.heap.size vl ks) := by
  intro ac ha dst pos aft g K Q hK
  unfold Oper.wp
  have hrun : (Instr.makeMap t none).run P w = .ok (.map (some w.heap.size)) (w.alloc (.map #[] 0)) := by simp [Instr.makeMap, Result.andThen]
  simp [execOp, hrun, Result.andThen]
  exact hK _ _ ⟨rfl, cL _ _, fun ks hk => mpB_new _ _ _ hk⟩
def MpR (w : World) (m r : Nat) (vl : Int → Bool) (ks : Int → Prop) (Q : Int → Prop) (c : Nat) : Prop :=
 ∃ (es : Array MapEntry) (clock since : Nat) (seen : Array Nat) (c0 : Nat), w.heap[m]? = some (.map es clock) ∧ MpI vl ks es clock ∧ w.heap[r]? = some (.mapIter (some m) since seen c0) ∧ (∀ x ∈ es.toList, x.born < since) ∧ since ≤ c0 ∧ since ≤ clock ∧ (leftOf es seen).size ≤ c ∧
   ∀ e ∈ es.toList, seen.contains e.born = true → ∀ x, e.key = .int .i64 x → Q x
def MpE (w : World) (m r : Nat) (vl : Int → Bool) (ks : Int → Prop) (Q : Int → Prop) (x : Int) (c : Nat) : Prop :=
 ∃ (es : Array MapEntry) (clock since : Nat) (seen : Array Nat), ∃ e ∈ es.toList, e.key = .int .i64 x ∧ e.val = .bool (vl x) ∧ w.heap[m]? = some (.map es clock) ∧ MpI vl ks es clock ∧ w.heap[r]? = some (.mapIter (some m) since (seen.push e.born) clock) ∧ (∀ x ∈ es.toList, x.born < since) ∧ since ≤ clock ∧ (leftOf es (seen.push e.born)).size ≤ c ∧
   ∀ e ∈ es.toList, seen.contains e.born = true → ∀ x, e.key = .int .i64 x → Q x
theorem MpR.keep {S : List Nat} {w w' : World} {m r c1 : Nat} {vl : Int → Bool} {ks Q : Int → Prop} (h : MpR w m r vl ks Q c1) (k : Keep S w w') (hm : m ∉ S) (hr : r ∉ S) : MpR w' m r vl ks Q c1 := by
 obtain ⟨es, c, si, se, c0, h1, h2, h3, h4⟩ := h
 exact ⟨es, c, si, se, c0, by rw [k.block m (Array.getElem?_eq_some_iff.1 h1).1 hm]; exact h1, h2, by rw [k.block r (Array.getElem?_eq_some_iff.1 h3).1 hr]; exact h3, h4⟩
theorem d_rng {t kt et : TypeId} {x : Operand} {m : Nat} {vl : Int → Bool} {ks : Int → Prop} (Q : Int → Prop) (ht : P.underlying t = some (.map kt et)) (hx : f.ev x = some (.map (some m))) (h : MpB w m vl ks) :
   Does P n f w (.range t x) ty (fun v w' => ∃ r, v = .pointer (some ⟨r, 0, none⟩) ∧ w.heap.size ≤ r ∧ Keep [] w w' ∧ ∃ c, MpR w' m r vl ks Q c) := by
 have hl := h.lt
 obtain ⟨es, clock, hb, hI⟩ := h
 intro ac ha dst pos aft g K Q' hK
 unfold Oper.wp
 have hrun := run_range_map (P := P) w t kt et m es clock ht hb
 simp [execOp, ha.ev hx, hrun, Result.andThen]
 refine hK _ _ ⟨_, rfl, Nat.le_refl _, cL _ _, _, es, clock, clock, #[], clock, ?_, hI, al_new _ _, hI.1.1, Nat.le_refl _, Nat.le_refl _, Nat.le_refl _, fun e he hs => by simp at hs⟩
 rw [al_old _ _ hl]; exact hb
theorem d_nxt {x : Operand} {m r c : Nat} {vl : Int → Bool} {ks Q : Int → Prop} (hx : f.ev x = some (.pointer (some ⟨r, 0, none⟩))) (hne : m ≠ r) (h : MpR w m r vl ks Q c) :
   Does P n f w (.next x false) ty (fun v w' => (v = .tuple [.bool false].toArray ∧ w' = w ∧ ∀ x, ks x → Q x) ∨ (∃ y, v = .tuple [.bool true, .int .i64 y, .bool (vl y)].toArray ∧ Keep [r] w w' ∧ ∃ c', c' < c ∧ MpE w' m r vl ks Q y c')) := by
 obtain ⟨es, clock, since, seen, c0, hb, hI, hr, hold, hsc, hsk, hle, hQ⟩ := h
 intro ac ha dst pos aft g K Q' hK
 unfold Oper.wp
 rcases run_next_at (P := P) w ty r m since c0 seen es clock hr hb hold hsc with ⟨h0, hrun⟩ | ⟨e, he, w1, hal, hrun⟩
 · simp [execOp, ha.ev hx, hrun, Result.andThen]
   refine hK _ _ (.inl ⟨rfl, rfl, fun y hy => ?_⟩)
   obtain ⟨e, he, hk⟩ := hI.2.2 y hy
   refine hQ e he ?_ y hk
   cases hc : seen.contains e.born with
   | true => rfl
   | false =>
     exfalso
     have : e ∈ (leftOf es seen).toList := by unfold leftOf; simp; exact ⟨by simpa using he, by simpa using hc⟩
     have h9 := List.length_pos_of_mem this
     simp at h9; omega
 · have hem : e ∈ es.toList := by unfold leftOf at he; simp at he; simpa using he.1
   obtain ⟨y, hy1, hy2⟩ := hI.2.1 e hem
   have hr1 : w1.heap[r]? = some (.mapIter (some m) since seen c0) := by rcases hal with rfl | rfl <;> exact hr
   have hb1 : w1.heap[m]? = some (.map es clock) := by rcases hal with rfl | rfl <;> exact hb
   have hset := heap_set (o' := .mapIter (some m) since (seen.push e.born) clock) hr1
   simp [execOp, ha.ev hx, hrun, Result.andThen]
   rw [hy1, hy2]
   refine hK _ _ (.inr ⟨y, rfl, ?_, _, Nat.lt_of_lt_of_le (left_shrinks es seen e he) hle, es, clock, since, seen, e, hem, hy1, hy2, (hset.2 m hne).trans hb1, hI, hset.1, hold, hsk, Nat.le_refl _, hQ⟩)
   have hk1 : Keep [r] w w1 := by (rcases hal with rfl | rfl <;> first | exact Keep.refl _ _ | exact (bt _).weak)
   exact hk1.trans (eD _ _ _)
theorem d_nxtU {x : Operand} {m r c : Nat} {vl : Int → Bool} {ks Q : Int → Prop} (hx : f.ev x = some (.pointer (some ⟨r, 0, none⟩))) (hne : m ≠ r) (h : MpR w m r vl ks Q c) :
   Does P n f w (.next x false) ty (fun v w' => ∃ (bo : Bool) (rest : List Value), v = .tuple (.bool bo :: rest).toArray ∧ Keep [r] w w' ∧ (bo = false → ∀ x, ks x → Q x) ∧ (bo = true → ∃ y c', c' < c ∧ MpE w' m r vl ks Q y c')) := by
 refine (d_nxt hx hne h).mono ?_
 rintro v w' (⟨rfl, rfl, hq⟩ | ⟨y, rfl, k, c', hc, hE⟩)
 · exact ⟨false, [], rfl, Keep.refl _ _, fun _ => hq, fun h => by cases h⟩
 · exact ⟨true, _, rfl, k, (fun h => by cases h), fun _ => ⟨y, c', hc, hE⟩⟩
theorem g_ent {x : Operand} {m r c : Nat} {vl : Int → Bool} {ks Q : Int → Prop} {y : Int} (hx : f.ev x = some (.pointer (some ⟨r, 0, none⟩))) (h : MpE w m r vl ks Q y c) :
   Gives P n f w (.entry x) ty (.tuple [.int .i64 y, .bool (vl y)].toArray) w := by
 obtain ⟨es, clock, since, seen, e, he, h1, h2, hb, hI, hr, _⟩ := h
 intro a ha dst pos aft g
 have hrun := run_entry_at (P := P) w r m since seen es clock e hr hb he hI.1.2.1
 simp [execOp, ha.ev hx, hrun, h1, h2]
theorem eR {α β : Type} {g : α → β} : ∀ {l : List α}, (l.map g).Nodup → ∀ {a b : α}, a ∈ l → b ∈ l → g a = g b → a = b
 | [], _, a, b, ha, _, _ => by cases ha
 | x :: r, hn, a, b, ha, hb, he => by
   rw [List.map_cons, List.nodup_cons] at hn
   rcases List.mem_cons.1 ha with rfl | ha' <;> rcases List.mem_cons.1 hb with rfl | hb'
   · rfl
   · exact absurd (List.mem_map.2 ⟨b, hb', he.symm⟩) hn.1
   · exact absurd (List.mem_map.2 ⟨a, ha', he⟩) hn.1
   · exact eR hn.2 ha' hb' he
theorem MpE.next {m r c : Nat} {vl : Int → Bool} {ks Q : Int → Prop} {y : Int} (h : MpE w m r vl ks Q y c) (hy : Q y) : MpR w m r vl ks Q c := by
 obtain ⟨es, clock, since, seen, e, he, h1, h2, hb, hI, hr, hold, hsk, hle, hQ⟩ := h
 refine ⟨es, clock, since, seen.push e.born, clock, hb, hI, hr, hold, hsk, hsk, hle, fun e2 he2 hs x hx => ?_⟩
 rw [Array.contains_push] at hs
 rcases Bool.or_eq_true_iff.1 hs with hs | hs
 · exact hQ e2 he2 hs x hx
 · have hb2 : e2.born = e.born := by simpa using hs
   have : e2 = e := by
     have hnd := hI.1.2.1
     exact eR (g := fun (z : MapEntry) => z.born) hnd he2 he hb2
   rw [this, h1] at hx
   cases hx; exact hy
end
end Go.Eng
namespace Go.Proofs.Ytonchmcppekldaa.W
open Go Go.Eng Go.Byt
def prV (x : Pr) (k : Int) : Bool := if k = 1 then pkBare x.pk else if k = 2 then lfBare x.lf else if k = 3 then decide (x.ix = 0) else if k = 4 then decide (x.psk.length + x.nonce.length = 0) else if k = 6 then decide (x.enc.length = 0) else true
def prAll (k : Int) : Prop := k = 1 ∨ k = 2 ∨ k = 3 ∨ k = 4 ∨ k = 6
def prQ (x : Pr) (k : Int) : Prop := k = x.kind ∨ prV x k = true
theorem prV_1 (x : Pr) : prV x 1 = pkBare x.pk := rfl
theorem prV_2 (x : Pr) : prV x 2 = lfBare x.lf := rfl
theorem prV_3 (x : Pr) : prV x 3 = decide (x.ix = 0) := rfl
theorem prV_4 (x : Pr) : prV x 4 = decide (x.psk.length + x.nonce.length = 0) := rfl
theorem prV_6 (x : Pr) : prV x 6 = decide (x.enc.length = 0) := rfl
theorem lE {x : Pr} (h : ∀ k, prAll k → prQ x k) : prBare x = true := by
 have h1 := h 1 (.inl rfl); have h2 := h 2 (.inr (.inl rfl)); have h3 := h 3 (.inr (.inr (.inl rfl))); have h4 := h 4 (.inr (.inr (.inr (.inl rfl)))); have h6 := h 6 (.inr (.inr (.inr (.inr rfl))))
 unfold prQ at h1 h2 h3 h4 h6
 rw [prV_1] at h1; rw [prV_2] at h2; rw [prV_3, decide_eq_true_eq] at h3; rw [prV_4, decide_eq_true_eq] at h4; rw [prV_6, decide_eq_true_eq] at h6
 exact fk.2 ⟨h1.imp Eq.symm id, h2.imp Eq.symm id, h3.imp Eq.symm id, h4.imp Eq.symm id, h6.imp Eq.symm id⟩
theorem m9 {x : Pr} {k : Int} (hk : k ≠ x.kind) (hv : prV x k = false) : prBare x = false := by
 cases hp : prBare x with
 | false => rfl
 | true =>
   obtain ⟨h1, h2, h3, h4, h6⟩ := fk.1 hp
   unfold prV at hv
   split at hv
   · rw [h1.resolve_left (by omega)] at hv; cases hv
   · split at hv
     · rw [h2.resolve_left (by omega)] at hv; cases hv
     · split at hv
       · rw [decide_eq_true (h3.resolve_left (by omega))] at hv; cases hv
       · split at hv
         · rw [decide_eq_true (h4.resolve_left (by omega))] at hv; cases hv
         · split at hv
           · rw [decide_eq_true (h6.resolve_left (by omega))] at hv; cases hv
           · cases hv
def prK (L : Nat → Bool) (y : Int) : Prop := (y = 1 ∧ L 14 = true) ∨ (y = 2 ∧ L 18 = true) ∨ (y = 3 ∧ L 22 = true) ∨ (y = 4 ∧ L 31 = true) ∨ (y = 6 ∧ L 36 = true)
def prJ (w0 : World) (x : Pr) (L : Nat → Bool) (vs : Nat → Value) (w : World) : Prop :=
 Keep [] w0 w ∧ (L 0 = false → L 14 = false ∧ L 18 = false ∧ L 22 = false ∧ L 31 = false ∧ L 36 = false) ∧ (L 0 = true → ∃ m, vs 0 = .map (some m) ∧ w0.heap.size ≤ m ∧ MpB w m (prV x) (prK L))
theorem prJ_0 (w0 : World) (x : Pr) (vs : Nat → Value) : prJ w0 x (fun _ => false) vs w0.drew := ⟨bt _, fun _ => ⟨rfl, rfl, rfl, rfl, rfl⟩, fun h => by cases h⟩
theorem prJ.same {w0 w : World} {x : Pr} {L : Nat → Bool} {vs vs' : Nat → Value} (h : prJ w0 x L vs w) (hv : L 0 = true → vs 0 = vs' 0) : prJ w0 x L vs' w :=
 ⟨h.1, h.2.1, fun h0 => by obtain ⟨m, e, r⟩ := h.2.2 h0; exact ⟨m, (hv h0).symm.trans e, r⟩⟩
theorem prJ.keep {w0 w w' : World} {x : Pr} {L : Nat → Bool} {vs : Nat → Value} (h : prJ w0 x L vs w) (k : Keep [] w w') : prJ w0 x L vs w' :=
 ⟨h.1.trans k, h.2.1, fun h0 => by obtain ⟨m, e, h1, h2⟩ := h.2.2 h0; exact ⟨m, e, h1, h2.keep k (fun hm => by cases hm)⟩⟩
theorem prJ.mk {w0 w w' : World} {x : Pr} {L : Nat → Bool} {vs : Nat → Value} {m : Nat} (h : prJ w0 x L vs w) (h0 : L 0 = false) (k : Keep [] w w') (hm : m = w.heap.size) (hn : ∀ ks : Int → Prop, (∀ y, ¬ ks y) → MpB w' m (prV x) ks) : prJ w0 x (updL L 0) (updV vs 0 (.map (some m))) w' := by
 obtain ⟨n1, n2, n3, n4, n6⟩ := h.2.1 h0
 refine ⟨h.1.trans k, fun h9 => ?_, fun _ => ⟨m, rfl, hm ▸ h.1.size, hn _ (fun y hy => ?_)⟩⟩
 · cases (show true = false from h9)
 · rcases hy with ⟨_, h9⟩ | ⟨_, h9⟩ | ⟨_, h9⟩ | ⟨_, h9⟩ | ⟨_, h9⟩
   · rw [show updL L 0 14 = L 14 from rfl, n1] at h9; cases h9
   · rw [show updL L 0 18 = L 18 from rfl, n2] at h9; cases h9
   · rw [show updL L 0 22 = L 22 from rfl, n3] at h9; cases h9
   · rw [show updL L 0 31 = L 31 from rfl, n4] at h9; cases h9
   · rw [show updL L 0 36 = L 36 from rfl, n6] at h9; cases h9
theorem gB {w0 w w' : World} {x : Pr} {L : Nat → Bool} {vs : Nat → Value} {m i : Nat} {v : Value} (h : prJ w0 x L vs w) (hi : Nat.beq 0 i = false) (h0 : L 0 = true) (em : vs 0 = .map (some m)) (hm : w0.heap.size ≤ m) (k : Keep [m] w w') (hM : MpB w' m (prV x) (prK (updL L i))) : prJ w0 x (updL L i) (updV vs i v) w' := by
 have e1 : updL L i 0 = true := by unfold updL; rw [hi]; exact h0
 refine ⟨h.1.new k (fun y hy => .inl ((List.mem_singleton.1 hy) ▸ hm)), fun h9 => ?_, fun _ => ⟨m, ?_, hm, hM⟩⟩
 · rw [e1] at h9; cases h9
 · unfold updV; rw [hi]; exact em
theorem kw (i e s n h g gg e2 s2 n2 h2 g2 y1 y2 y3 : Value) (x : Pr) (w : World) (hi : RdB w i x.pk.init) (he : RdB w e x.pk.leaf.enc) (hs : RdB w s x.pk.leaf.sig) (hn : RdB w n x.pk.leaf.name) (hh : RdB w h x.pk.leaf.hash) (hg : RdB w g x.pk.leaf.sg) (hgg : RdB w gg x.pk.sg) (he2 : RdB w e2 x.lf.enc) (hs2 : RdB w s2 x.lf.sig) (hn2 : RdB w n2 x.lf.name) (hh2 : RdB w h2 x.lf.hash) (hg2 : RdB w g2 x.lf.sg) (hy1 : RdB w y1 x.psk) (hy2 : RdB w y2 x.nonce) (hy3 : RdB w y3 x.enc) (t0 : x.pk.init.length ≤ 140737488351232) (t1 : x.pk.leaf.enc.length ≤ 140737488351232) (t2 : x.pk.leaf.sig.length ≤ 140737488351232) (t3 : x.pk.leaf.name.length ≤ 140737488351232) (t4 : x.pk.leaf.hash.length ≤ 140737488351232) (t5 : x.pk.leaf.sg.length ≤ 140737488351232) (t6 : x.pk.sg.length ≤ 140737488351232) (t7 : x.lf.enc.length ≤ 140737488351232) (t8 : x.lf.sig.length ≤ 140737488351232) (t9 : x.lf.name.length ≤ 140737488351232) (t10 : x.lf.hash.length ≤ 140737488351232) (t11 : x.lf.sg.length ≤ 140737488351232) (t12 : x.psk.length ≤ 140737488351232) (t13 : x.nonce.length ≤ 140737488351232) (t14 : x.enc.length ≤ 140737488351232) : Rets Try.prog 26 [.agg [.int .i64 x.kind, i, e, s, n, .int .i64 x.pk.leaf.src, h, g, gg, e2, s2, n2, .int .i64 x.lf.src, h2, g2, .int .i64 x.ix, y1, y2, y3].toArray] w (fun r w' => r = .bool (prOk x) ∧ Keep [] w w') := by
  have hB : Keep [] w w := Keep.refl _ _
  refine ai Try.func26 rfl (by decide) Try.ntmps26 rfl (fun fin _ hfin => a5 (aZ (ah (bc (cs := [.int .i64 x.kind, i, e, s, n, .int .i64 x.pk.leaf.src, h, g, gg, e2, s2, n2, .int .i64 x.lf.src, h2, g2, .int .i64 x.ix, y1, y2, y3]) rfl rfl) rfl ?_)))
  rintro _ w1 ⟨b1, rfl, eb1, hb1, k1, z1⟩
  have ge_b1 : w.heap.size ≤ b1 := by have := hB.size; omega
  replace hB := hB.trans k1
  clear eb1 z1
  refine oga rfl rfl (a6 (a5 (aZ (a7 (ak aH rfl cg (by decide) rfl) rfl (a7 (au (cs' := [_, _, _, _, _, _, _, _]) fu cg rfl hb1 rfl rfl) rfl (ah (bG cg) rfl ?_))))))
  rintro _ w2 ⟨b2, rfl, eb2, hb2, k2, z2⟩
  have ge_b2 : w.heap.size ≤ b2 := by have := hB.size; omega
  have ne_b1_b2 : b1 ≠ b2 := by have := hb1.lt; omega
  obtain ⟨hB, hb1⟩ := bX k2 hB hb1
  clear eb2 z2
  refine an (bK cg rfl rfl rfl (by simp only [List.forall_mem_cons]; refine ⟨(by first | rfl | exact Rd.one (by first | assumption | exact Own.rd (by assumption) | exact Rd.oC (by assumption) hB | exact Own.rd (Own.oC (by assumption) hB))), (by first | rfl | exact Rd.one (by first | assumption | exact Own.rd (by assumption) | exact Rd.oC (by assumption) hB | exact Own.rd (Own.oC (by assumption) hB))), (by first | rfl | exact Rd.one (by first | assumption | exact Own.rd (by assumption) | exact Rd.oC (by assumption) hB | exact Own.rd (Own.oC (by assumption) hB))), (by first | rfl | exact Rd.one (by first | assumption | exact Own.rd (by assumption) | exact Rd.oC (by assumption) hB | exact Own.rd (Own.oC (by assumption) hB))), (by first | rfl | exact Rd.one (by first | assumption | exact Own.rd (by assumption) | exact Rd.oC (by assumption) hB | exact Own.rd (Own.oC (by assumption) hB))), (by first | rfl | exact Rd.one (by first | assumption | exact Own.rd (by assumption) | exact Rd.oC (by assumption) hB | exact Own.rd (Own.oC (by assumption) hB))), (by first | rfl | exact Rd.one (by first | assumption | exact Own.rd (by assumption) | exact Rd.oC (by assumption) hB | exact Own.rd (Own.oC (by assumption) hB))), (by first | rfl | exact Rd.one (by first | assumption | exact Own.rd (by assumption) | exact Rd.oC (by assumption) hB | exact Own.rd (Own.oC (by assumption) hB))), fun v hv => by cases hv⟩) hb2 rfl) ?_
  rintro _ w3 ⟨hb3, k3, z3⟩
  replace hb1 := hb1.keep k3 (nm ne_b1_b2)
  replace hB := hB.new k3 (nw ge_b2)
  clear z3
  replace hb3 : Bk w3 b2 _ [i, e, s, n, .int .i64 x.pk.leaf.src, h, g, gg] := hb3
  refine a6 (a5 (a5 ?_))
  refine fS 37 mixed [(0, _), (1, _), (2, _), (7, _), (8, _), (3, _)] (fun jj v => match jj with | 1 => v = .pointer (some ⟨b2, 0 + 0, none⟩) | 2 => v = i | 3 => v = .int .i64 (x.pk.init.length : Int) | 4 => v = .pointer (some ⟨b2, 0 + 7, none⟩) | 5 => v = gg | 6 => v = .int .i64 (x.pk.sg.length : Int) | 7 => v = .int .i64 ((x.pk.init.length : Int) + (x.pk.sg.length : Int)) | 8 => v = .bool (decide (((x.pk.init.length : Int) + (x.pk.sg.length : Int)) = 0)) | 9 => v = .bool (decide (((x.pk.init.length : Int) + (x.pk.sg.length : Int)) = 0)) | 10 => v = gv (decide (((x.pk.init.length : Int) + (x.pk.sg.length : Int)) = 0)) (.pointer (some ⟨b2, 0 + 1, none⟩)) | 11 => v = gv (decide (((x.pk.init.length : Int) + (x.pk.sg.length : Int)) = 0)) (.agg [e, s, n, .int .i64 x.pk.leaf.src, h, g].toArray) | 12 => v = gv (decide (((x.pk.init.length : Int) + (x.pk.sg.length : Int)) = 0)) (.bool (lfBare x.pk.leaf)) | 13 => v = .bool ((decide (((x.pk.init.length : Int) + (x.pk.sg.length : Int)) = 0)) && (lfBare x.pk.leaf)) | 15 => v = .pointer (some ⟨b1, 0 + 9, none⟩) | 16 => v = .agg [e2, s2, n2, .int .i64 x.lf.src, h2, g2].toArray | 17 => v = .bool (lfBare x.lf) | 19 => v = .pointer (some ⟨b1, 0 + 15, none⟩) | 20 => v = .int .i64 x.ix | 21 => v = .bool (decide (x.ix = 0)) | 23 => v = .pointer (some ⟨b1, 0 + 16, none⟩) | 24 => v = y1 | 25 => v = .int .i64 (x.psk.length : Int) | 26 => v = .pointer (some ⟨b1, 0 + 17, none⟩) | 27 => v = y2 | 28 => v = .int .i64 (x.nonce.length : Int) | 29 => v = .int .i64 ((x.psk.length : Int) + (x.nonce.length : Int)) | 30 => v = .bool (decide (((x.psk.length : Int) + (x.nonce.length : Int)) = 0)) | 32 => v = .pointer (some ⟨b1, 0 + 18, none⟩) | 33 => v = y3 | 34 => v = .int .i64 (x.enc.length : Int) | 35 => v = .bool (decide ((x.enc.length : Int) = 0)) | _ => True) (prJ w3 x) ⟨rfl, rfl, rfl, rfl, rfl, rfl, trivial⟩ (by decide) (by decide) rfl (fun vs => prJ_0 w3 x vs) (fun L vs vs' w' h hJ => hJ.same (fun h0 => h 0 h0 rfl)) ?_ ?_
  · refine ⟨?_, ?_, ?_, ?_, ?_, ?_, ?_, ?_, ?_, ?_, ?_, ?_, ?_, ?_, ?_, ?_, ?_, ?_, ?_, ?_, ?_, ?_, ?_, ?_, ?_, ?_, ?_, ?_, ?_, ?_, ?_, ?_, ?_, ?_, ?_, ?_, ?_, trivial⟩
    · refine ⟨[], rfl, ?_⟩; rintro L W1 vs hL0 hLd hJ hd
      have hk := hJ.1
      obtain ⟨hB, hb1, hb3⟩ := cS hk hB hb1 hb3
      refine ⟨true, fun a _ => rfl, fun _ => (aa [] trivial ?_), fun h => by cases h⟩
      refine (d_mkm (prV x)).mono ?_
      rintro v W2 ⟨rfl, k1, hn⟩; exact ⟨trivial, hJ.mk hL0 k1 rfl hn⟩
    · refine ⟨[], rfl, ?_⟩; rintro L W1 vs hL0 hLd hJ hd
      have hk := hJ.1
      obtain ⟨hB, hb1, hb3⟩ := cS hk hB hb1 hb3
      refine ⟨true, fun a _ => rfl, fun _ => (aa [(3, _)] ⟨rfl, trivial⟩ ?_), fun h => by cases h⟩
      refine (Gives.does (ak aL rfl am (by decide) rfl)).mono ?_
      rintro v W2 ⟨rfl, rfl⟩; exact ⟨rfl, hJ⟩
    · refine ⟨[1], rfl, ?_⟩; rintro L W1 vs hL0 hLd hJ hd
      have d1 : vs 1 = .pointer (some ⟨b2, 0 + 0, none⟩) := hd 1 (by decide)
      have hk := hJ.1
      obtain ⟨hB, hb1, hb3⟩ := cS hk hB hb1 hb3
      refine ⟨true, fun a _ => rfl, fun _ => (aa [(10, .pointer (some ⟨b2, 0 + 0, none⟩))] ⟨congrArg some d1, trivial⟩ ?_), fun h => by cases h⟩
      refine (Gives.does (ae aw rfl hb3 rfl)).mono ?_
      rintro v W2 ⟨rfl, rfl⟩; exact ⟨rfl, hJ⟩
    · refine ⟨[2], rfl, ?_⟩; rintro L W1 vs hL0 hLd hJ hd
      have d2 : vs 2 = i := hd 2 (by decide)
      have hk := hJ.1
      obtain ⟨hB, hb1, hb3⟩ := cS hk hB hb1 hb3
      refine ⟨true, fun a _ => rfl, fun _ => (aa [(11, i)] ⟨congrArg some d2, trivial⟩ ?_), fun h => by cases h⟩
      refine (Gives.does (ay aA rfl (by first | assumption | exact Own.rd (by assumption) | exact Rd.oC (by assumption) hB | exact Own.rd (Own.oC (by assumption) hB)))).mono ?_
      rintro v W2 ⟨rfl, rfl⟩; exact ⟨rfl, hJ⟩
    · refine ⟨[], rfl, ?_⟩; rintro L W1 vs hL0 hLd hJ hd
      have hk := hJ.1
      obtain ⟨hB, hb1, hb3⟩ := cS hk hB hb1 hb3
      refine ⟨true, fun a _ => rfl, fun _ => (aa [(3, _)] ⟨rfl, trivial⟩ ?_), fun h => by cases h⟩
      refine (Gives.does (ak aL rfl am (by decide) rfl)).mono ?_
      rintro v W2 ⟨rfl, rfl⟩; exact ⟨rfl, hJ⟩
    · refine ⟨[4], rfl, ?_⟩; rintro L W1 vs hL0 hLd hJ hd
      have d4 : vs 4 = .pointer (some ⟨b2, 0 + 7, none⟩) := hd 4 (by decide)
      have hk := hJ.1
      obtain ⟨hB, hb1, hb3⟩ := cS hk hB hb1 hb3
      refine ⟨true, fun a _ => rfl, fun _ => (aa [(13, .pointer (some ⟨b2, 0 + 7, none⟩))] ⟨congrArg some d4, trivial⟩ ?_), fun h => by cases h⟩
      refine (Gives.does (ae aw rfl hb3 rfl)).mono ?_
      rintro v W2 ⟨rfl, rfl⟩; exact ⟨rfl, hJ⟩
    · refine ⟨[5], rfl, ?_⟩; rintro L W1 vs hL0 hLd hJ hd
      have d5 : vs 5 = gg := hd 5 (by decide)
      have hk := hJ.1
      obtain ⟨hB, hb1, hb3⟩ := cS hk hB hb1 hb3
      refine ⟨true, fun a _ => rfl, fun _ => (aa [(14, gg)] ⟨congrArg some d5, trivial⟩ ?_), fun h => by cases h⟩
      refine (Gives.does (ay aA rfl (by first | assumption | exact Own.rd (by assumption) | exact Rd.oC (by assumption) hB | exact Own.rd (Own.oC (by assumption) hB)))).mono ?_
      rintro v W2 ⟨rfl, rfl⟩; exact ⟨rfl, hJ⟩
    · refine ⟨[3, 6], rfl, ?_⟩; rintro L W1 vs hL0 hLd hJ hd
      have d3 : vs 3 = .int .i64 (x.pk.init.length : Int) := hd 3 (by decide)
      have d6 : vs 6 = .int .i64 (x.pk.sg.length : Int) := hd 6 (by decide)
      have hk := hJ.1
      obtain ⟨hB, hb1, hb3⟩ := cS hk hB hb1 hb3
      refine ⟨true, fun a _ => rfl, fun _ => (aa [(12, .int .i64 (x.pk.init.length : Int)), (15, .int .i64 (x.pk.sg.length : Int))] ⟨congrArg some d3, congrArg some d6, trivial⟩ ?_), fun h => by cases h⟩
      refine (Gives.does (bN rfl rfl (by omega))).mono ?_
      rintro v W2 ⟨rfl, rfl⟩; exact ⟨rfl, hJ⟩
    · refine ⟨[7], rfl, ?_⟩; rintro L W1 vs hL0 hLd hJ hd
      have d7 : vs 7 = .int .i64 ((x.pk.init.length : Int) + (x.pk.sg.length : Int)) := hd 7 (by decide)
      have hk := hJ.1
      obtain ⟨hB, hb1, hb3⟩ := cS hk hB hb1 hb3
      refine ⟨true, fun a _ => rfl, fun _ => (aa [(16, .int .i64 ((x.pk.init.length : Int) + (x.pk.sg.length : Int)))] ⟨congrArg some d7, trivial⟩ ?_), fun h => by cases h⟩
      refine (Gives.does (bE rfl rfl)).mono ?_
      rintro v W2 ⟨rfl, rfl⟩; exact ⟨rfl, hJ⟩
    · refine ⟨[8], rfl, ?_⟩; rintro L W1 vs hL0 hLd hJ hd
      have d8 : vs 8 = .bool (decide (((x.pk.init.length : Int) + (x.pk.sg.length : Int)) = 0)) := hd 8 (by decide)
      have hk := hJ.1
      obtain ⟨hB, hb1, hb3⟩ := cS hk hB hb1 hb3
      refine ⟨true, fun a _ => rfl, fun _ => (aa [(17, .bool (decide (((x.pk.init.length : Int) + (x.pk.sg.length : Int)) = 0)))] ⟨congrArg some d8, trivial⟩ ?_), fun h => by cases h⟩
      refine (Gives.does (bC rfl)).mono ?_
      rintro v W2 ⟨rfl, rfl⟩; exact ⟨rfl, hJ⟩
    · refine ⟨[9], rfl, ?_⟩; rintro L W1 vs hL0 hLd hJ hd
      have d9 : vs 9 = .bool (decide (((x.pk.init.length : Int) + (x.pk.sg.length : Int)) = 0)) := hd 9 (by decide)
      have hk := hJ.1
      obtain ⟨hB, hb1, hb3⟩ := cS hk hB hb1 hb3
      refine ⟨(decide (((x.pk.init.length : Int) + (x.pk.sg.length : Int)) = 0)), fun a ha => (by refine ad (c := (decide (((x.pk.init.length : Int) + (x.pk.sg.length : Int)) = 0))) (b := (decide (((x.pk.init.length : Int) + (x.pk.sg.length : Int)) = 0))) (oj := ?oj) (d := 18) ?h1 ?h2 ?h3 (by simp) a ha; (case h1 => exact rfl); (case h2 => exact rfl); (case h3 => exact congrArg some d9)), fun hgq => (aa [(3, _)] ⟨rfl, trivial⟩ ?_), fun hgq => ⟨(eS hgq).symm, hJ⟩⟩
      refine (Gives.does (ak aL rfl bk (by decide) rfl)).mono ?_
      rintro v W2 ⟨rfl, rfl⟩; exact ⟨(dc hgq).symm, hJ⟩
    · refine ⟨[9, 10], rfl, ?_⟩; rintro L W1 vs hL0 hLd hJ hd
      have d9 : vs 9 = .bool (decide (((x.pk.init.length : Int) + (x.pk.sg.length : Int)) = 0)) := hd 9 (by decide)
      have d10 : vs 10 = gv (decide (((x.pk.init.length : Int) + (x.pk.sg.length : Int)) = 0)) (.pointer (some ⟨b2, 0 + 1, none⟩)) := hd 10 (by decide)
      have hk := hJ.1
      obtain ⟨hB, hb1, hb3⟩ := cS hk hB hb1 hb3
      refine ⟨(decide (((x.pk.init.length : Int) + (x.pk.sg.length : Int)) = 0)), fun a ha => (by refine ad (c := (decide (((x.pk.init.length : Int) + (x.pk.sg.length : Int)) = 0))) (b := (decide (((x.pk.init.length : Int) + (x.pk.sg.length : Int)) = 0))) (oj := ?oj) (d := 18) ?h1 ?h2 ?h3 (by simp) a ha; (case h1 => exact rfl); (case h2 => exact rfl); (case h3 => exact congrArg some d9)), fun hgq => (aa [(19, .pointer (some ⟨b2, 0 + 1, none⟩))] ⟨congrArg some (d10.trans (dc hgq)), trivial⟩ ?_), fun hgq => ⟨(eS hgq).symm, hJ⟩⟩
      refine (Gives.does (au (cs' := [_, _, _, _, _, _]) dt bk rfl hb3 rfl rfl)).mono ?_
      rintro v W2 ⟨rfl, rfl⟩; exact ⟨(dc hgq).symm, hJ⟩
    · refine ⟨[9, 11], rfl, ?_⟩; rintro L W1 vs hL0 hLd hJ hd
      have d9 : vs 9 = .bool (decide (((x.pk.init.length : Int) + (x.pk.sg.length : Int)) = 0)) := hd 9 (by decide)
      have d11 : vs 11 = gv (decide (((x.pk.init.length : Int) + (x.pk.sg.length : Int)) = 0)) (.agg [e, s, n, .int .i64 x.pk.leaf.src, h, g].toArray) := hd 11 (by decide)
      have hk := hJ.1
      obtain ⟨hB, hb1, hb3⟩ := cS hk hB hb1 hb3
      refine ⟨(decide (((x.pk.init.length : Int) + (x.pk.sg.length : Int)) = 0)), fun a ha => (by refine ad (c := (decide (((x.pk.init.length : Int) + (x.pk.sg.length : Int)) = 0))) (b := (decide (((x.pk.init.length : Int) + (x.pk.sg.length : Int)) = 0))) (oj := ?oj) (d := 18) ?h1 ?h2 ?h3 (by simp) a ha; (case h1 => exact rfl); (case h2 => exact rfl); (case h3 => exact congrArg some d9)), fun hgq => (aa [(20, .agg [e, s, n, .int .i64 x.pk.leaf.src, h, g].toArray)] ⟨congrArg some (d11.trans (dc hgq)), trivial⟩ ?_), fun hgq => ⟨(eS hgq).symm, hJ⟩⟩
      refine (ab (vs := [_]) rfl (gL _ _ _ _ _ x.pk.leaf _ (by first | assumption | exact Own.rd (by assumption) | exact Rd.oC (by assumption) hB | exact Own.rd (Own.oC (by assumption) hB)) (by first | assumption | exact Own.rd (by assumption) | exact Rd.oC (by assumption) hB | exact Own.rd (Own.oC (by assumption) hB)) (by first | assumption | exact Own.rd (by assumption) | exact Rd.oC (by assumption) hB | exact Own.rd (Own.oC (by assumption) hB)) (by first | assumption | exact Own.rd (by assumption) | exact Rd.oC (by assumption) hB | exact Own.rd (Own.oC (by assumption) hB)) (by first | assumption | exact Own.rd (by assumption) | exact Rd.oC (by assumption) hB | exact Own.rd (Own.oC (by assumption) hB)) t1 t2 t3 t4 t5)).mono ?_
      rintro v W2 ⟨rfl, k1⟩; exact ⟨(dc hgq).symm, hJ.keep k1⟩
    · refine ⟨[9, 12], rfl, ?_⟩; rintro L W1 vs hL0 hLd hJ hd
      have d9 : vs 9 = .bool (decide (((x.pk.init.length : Int) + (x.pk.sg.length : Int)) = 0)) := hd 9 (by decide)
      have d12 : vs 12 = gv (decide (((x.pk.init.length : Int) + (x.pk.sg.length : Int)) = 0)) (.bool (lfBare x.pk.leaf)) := hd 12 (by decide)
      have hk := hJ.1
      obtain ⟨hB, hb1, hb3⟩ := cS hk hB hb1 hb3
      refine ⟨true, fun a _ => rfl, fun _ => (aa [(18, .bool (decide (((x.pk.init.length : Int) + (x.pk.sg.length : Int)) = 0))), (21, gv (decide (((x.pk.init.length : Int) + (x.pk.sg.length : Int)) = 0)) (.bool (lfBare x.pk.leaf)))] ⟨congrArg some d9, congrArg some d12, trivial⟩ ?_), fun h => by cases h⟩
      refine (Gives.does (bM (c := (decide (((x.pk.init.length : Int) + (x.pk.sg.length : Int)) = 0))) (b := (decide (((x.pk.init.length : Int) + (x.pk.sg.length : Int)) = 0))) (b2 := (lfBare x.pk.leaf)) rfl rfl (by simp))).mono ?_
      rintro v W2 ⟨rfl, rfl⟩; exact ⟨rfl, hJ⟩
    · refine ⟨[0, 13], rfl, ?_⟩; rintro L W1 vs hL0 hLd hJ hd
      have d13 : vs 13 = .bool ((decide (((x.pk.init.length : Int) + (x.pk.sg.length : Int)) = 0)) && (lfBare x.pk.leaf)) := hd 13 (by decide)
      have hk := hJ.1
      obtain ⟨hB, hb1, hb3⟩ := cS hk hB hb1 hb3
      refine ⟨true, fun a _ => rfl, fun _ => ?_, fun h => by cases h⟩
      obtain ⟨m, em, hm0, hM⟩ := hJ.2.2 (hLd 0 (by decide))
      refine aa [(9, .map (some m)), (22, .bool ((decide (((x.pk.init.length : Int) + (x.pk.sg.length : Int)) = 0)) && (lfBare x.pk.leaf)))] ⟨congrArg some em, congrArg some d13, trivial⟩ ?_
      refine (kc (a := 1) aX aM rfl rfl rfl (by rw [prV_1]; unfold pkBare; congr 1; rw [Bool.eq_iff_iff]; simp only [decide_eq_true_eq]; omega) hM).mono ?_
      rintro v W2 ⟨k1, hM2⟩; exact ⟨trivial, gB hJ (i := 14) (by decide) (hLd 0 (by decide)) em hm0 k1 (hM2.sub (fun y hy => by rcases hy with ⟨rfl, h9⟩ | ⟨rfl, h9⟩ | ⟨rfl, h9⟩ | ⟨rfl, h9⟩ | ⟨rfl, h9⟩ <;> first | exact .inl rfl | exact .inr (.inl ⟨rfl, h9⟩) | exact .inr (.inr (.inl ⟨rfl, h9⟩)) | exact .inr (.inr (.inr (.inl ⟨rfl, h9⟩))) | exact .inr (.inr (.inr (.inr (.inl ⟨rfl, h9⟩)))) | exact .inr (.inr (.inr (.inr (.inr ⟨rfl, h9⟩))))))⟩
    · refine ⟨[], rfl, ?_⟩; rintro L W1 vs hL0 hLd hJ hd
      have hk := hJ.1
      obtain ⟨hB, hb1, hb3⟩ := cS hk hB hb1 hb3
      refine ⟨true, fun a _ => rfl, fun _ => (aa [(1, _)] ⟨rfl, trivial⟩ ?_), fun h => by cases h⟩
      refine (Gives.does (ak aH rfl bk (by decide) rfl)).mono ?_
      rintro v W2 ⟨rfl, rfl⟩; exact ⟨rfl, hJ⟩
    · refine ⟨[15], rfl, ?_⟩; rintro L W1 vs hL0 hLd hJ hd
      have d15 : vs 15 = .pointer (some ⟨b1, 0 + 9, none⟩) := hd 15 (by decide)
      have hk := hJ.1
      obtain ⟨hB, hb1, hb3⟩ := cS hk hB hb1 hb3
      refine ⟨true, fun a _ => rfl, fun _ => (aa [(23, .pointer (some ⟨b1, 0 + 9, none⟩))] ⟨congrArg some d15, trivial⟩ ?_), fun h => by cases h⟩
      refine (Gives.does (au (cs' := [_, _, _, _, _, _]) dt bk rfl hb1 rfl rfl)).mono ?_
      rintro v W2 ⟨rfl, rfl⟩; exact ⟨rfl, hJ⟩
    · refine ⟨[16], rfl, ?_⟩; rintro L W1 vs hL0 hLd hJ hd
      have d16 : vs 16 = .agg [e2, s2, n2, .int .i64 x.lf.src, h2, g2].toArray := hd 16 (by decide)
      have hk := hJ.1
      obtain ⟨hB, hb1, hb3⟩ := cS hk hB hb1 hb3
      refine ⟨true, fun a _ => rfl, fun _ => (aa [(24, .agg [e2, s2, n2, .int .i64 x.lf.src, h2, g2].toArray)] ⟨congrArg some d16, trivial⟩ ?_), fun h => by cases h⟩
      refine (ab (vs := [_]) rfl (gL _ _ _ _ _ x.lf _ (by first | assumption | exact Own.rd (by assumption) | exact Rd.oC (by assumption) hB | exact Own.rd (Own.oC (by assumption) hB)) (by first | assumption | exact Own.rd (by assumption) | exact Rd.oC (by assumption) hB | exact Own.rd (Own.oC (by assumption) hB)) (by first | assumption | exact Own.rd (by assumption) | exact Rd.oC (by assumption) hB | exact Own.rd (Own.oC (by assumption) hB)) (by first | assumption | exact Own.rd (by assumption) | exact Rd.oC (by assumption) hB | exact Own.rd (Own.oC (by assumption) hB)) (by first | assumption | exact Own.rd (by assumption) | exact Rd.oC (by assumption) hB | exact Own.rd (Own.oC (by assumption) hB)) t7 t8 t9 t10 t11)).mono ?_
      rintro v W2 ⟨rfl, k1⟩; exact ⟨rfl, hJ.keep k1⟩
    · refine ⟨[0, 17], rfl, ?_⟩; rintro L W1 vs hL0 hLd hJ hd
      have d17 : vs 17 = .bool (lfBare x.lf) := hd 17 (by decide)
      have hk := hJ.1
      obtain ⟨hB, hb1, hb3⟩ := cS hk hB hb1 hb3
      refine ⟨true, fun a _ => rfl, fun _ => ?_, fun h => by cases h⟩
      obtain ⟨m, em, hm0, hM⟩ := hJ.2.2 (hLd 0 (by decide))
      refine aa [(9, .map (some m)), (25, .bool (lfBare x.lf))] ⟨congrArg some em, congrArg some d17, trivial⟩ ?_
      refine (kc (a := 2) aX aM rfl rfl rfl (prV_2 x).symm hM).mono ?_
      rintro v W2 ⟨k1, hM2⟩; exact ⟨trivial, gB hJ (i := 18) (by decide) (hLd 0 (by decide)) em hm0 k1 (hM2.sub (fun y hy => by rcases hy with ⟨rfl, h9⟩ | ⟨rfl, h9⟩ | ⟨rfl, h9⟩ | ⟨rfl, h9⟩ | ⟨rfl, h9⟩ <;> first | exact .inl rfl | exact .inr (.inl ⟨rfl, h9⟩) | exact .inr (.inr (.inl ⟨rfl, h9⟩)) | exact .inr (.inr (.inr (.inl ⟨rfl, h9⟩))) | exact .inr (.inr (.inr (.inr (.inl ⟨rfl, h9⟩)))) | exact .inr (.inr (.inr (.inr (.inr ⟨rfl, h9⟩))))))⟩
    · refine ⟨[], rfl, ?_⟩; rintro L W1 vs hL0 hLd hJ hd
      have hk := hJ.1
      obtain ⟨hB, hb1, hb3⟩ := cS hk hB hb1 hb3
      refine ⟨true, fun a _ => rfl, fun _ => (aa [(1, _)] ⟨rfl, trivial⟩ ?_), fun h => by cases h⟩
      refine (Gives.does (ak aH rfl bh (by decide) rfl)).mono ?_
      rintro v W2 ⟨rfl, rfl⟩; exact ⟨rfl, hJ⟩
    · refine ⟨[19], rfl, ?_⟩; rintro L W1 vs hL0 hLd hJ hd
      have d19 : vs 19 = .pointer (some ⟨b1, 0 + 15, none⟩) := hd 19 (by decide)
      have hk := hJ.1
      obtain ⟨hB, hb1, hb3⟩ := cS hk hB hb1 hb3
      refine ⟨true, fun a _ => rfl, fun _ => (aa [(26, .pointer (some ⟨b1, 0 + 15, none⟩))] ⟨congrArg some d19, trivial⟩ ?_), fun h => by cases h⟩
      refine (Gives.does (ae cY rfl hb1 rfl)).mono ?_
      rintro v W2 ⟨rfl, rfl⟩; exact ⟨rfl, hJ⟩
    · refine ⟨[20], rfl, ?_⟩; rintro L W1 vs hL0 hLd hJ hd
      have d20 : vs 20 = .int .i64 x.ix := hd 20 (by decide)
      have hk := hJ.1
      obtain ⟨hB, hb1, hb3⟩ := cS hk hB hb1 hb3
      refine ⟨true, fun a _ => rfl, fun _ => (aa [(27, .int .i64 x.ix)] ⟨congrArg some d20, trivial⟩ ?_), fun h => by cases h⟩
      refine (Gives.does (bE rfl rfl)).mono ?_
      rintro v W2 ⟨rfl, rfl⟩; exact ⟨rfl, hJ⟩
    · refine ⟨[0, 21], rfl, ?_⟩; rintro L W1 vs hL0 hLd hJ hd
      have d21 : vs 21 = .bool (decide (x.ix = 0)) := hd 21 (by decide)
      have hk := hJ.1
      obtain ⟨hB, hb1, hb3⟩ := cS hk hB hb1 hb3
      refine ⟨true, fun a _ => rfl, fun _ => ?_, fun h => by cases h⟩
      obtain ⟨m, em, hm0, hM⟩ := hJ.2.2 (hLd 0 (by decide))
      refine aa [(9, .map (some m)), (28, .bool (decide (x.ix = 0)))] ⟨congrArg some em, congrArg some d21, trivial⟩ ?_
      refine (kc (a := 3) aX aM rfl rfl rfl (prV_3 x).symm hM).mono ?_
      rintro v W2 ⟨k1, hM2⟩; exact ⟨trivial, gB hJ (i := 22) (by decide) (hLd 0 (by decide)) em hm0 k1 (hM2.sub (fun y hy => by rcases hy with ⟨rfl, h9⟩ | ⟨rfl, h9⟩ | ⟨rfl, h9⟩ | ⟨rfl, h9⟩ | ⟨rfl, h9⟩ <;> first | exact .inl rfl | exact .inr (.inl ⟨rfl, h9⟩) | exact .inr (.inr (.inl ⟨rfl, h9⟩)) | exact .inr (.inr (.inr (.inl ⟨rfl, h9⟩))) | exact .inr (.inr (.inr (.inr (.inl ⟨rfl, h9⟩)))) | exact .inr (.inr (.inr (.inr (.inr ⟨rfl, h9⟩))))))⟩
    · refine ⟨[], rfl, ?_⟩; rintro L W1 vs hL0 hLd hJ hd
      have hk := hJ.1
      obtain ⟨hB, hb1, hb3⟩ := cS hk hB hb1 hb3
      refine ⟨true, fun a _ => rfl, fun _ => (aa [(1, _)] ⟨rfl, trivial⟩ ?_), fun h => by cases h⟩
      refine (Gives.does (ak aH rfl am (by decide) rfl)).mono ?_
      rintro v W2 ⟨rfl, rfl⟩; exact ⟨rfl, hJ⟩
    · refine ⟨[23], rfl, ?_⟩; rintro L W1 vs hL0 hLd hJ hd
      have d23 : vs 23 = .pointer (some ⟨b1, 0 + 16, none⟩) := hd 23 (by decide)
      have hk := hJ.1
      obtain ⟨hB, hb1, hb3⟩ := cS hk hB hb1 hb3
      refine ⟨true, fun a _ => rfl, fun _ => (aa [(29, .pointer (some ⟨b1, 0 + 16, none⟩))] ⟨congrArg some d23, trivial⟩ ?_), fun h => by cases h⟩
      refine (Gives.does (ae aw rfl hb1 rfl)).mono ?_
      rintro v W2 ⟨rfl, rfl⟩; exact ⟨rfl, hJ⟩
    · refine ⟨[24], rfl, ?_⟩; rintro L W1 vs hL0 hLd hJ hd
      have d24 : vs 24 = y1 := hd 24 (by decide)
      have hk := hJ.1
      obtain ⟨hB, hb1, hb3⟩ := cS hk hB hb1 hb3
      refine ⟨true, fun a _ => rfl, fun _ => (aa [(30, y1)] ⟨congrArg some d24, trivial⟩ ?_), fun h => by cases h⟩
      refine (Gives.does (ay aA rfl (by first | assumption | exact Own.rd (by assumption) | exact Rd.oC (by assumption) hB | exact Own.rd (Own.oC (by assumption) hB)))).mono ?_
      rintro v W2 ⟨rfl, rfl⟩; exact ⟨rfl, hJ⟩
    · refine ⟨[], rfl, ?_⟩; rintro L W1 vs hL0 hLd hJ hd
      have hk := hJ.1
      obtain ⟨hB, hb1, hb3⟩ := cS hk hB hb1 hb3
      refine ⟨true, fun a _ => rfl, fun _ => (aa [(1, _)] ⟨rfl, trivial⟩ ?_), fun h => by cases h⟩
      refine (Gives.does (ak aH rfl am (by decide) rfl)).mono ?_
      rintro v W2 ⟨rfl, rfl⟩; exact ⟨rfl, hJ⟩
    · refine ⟨[26], rfl, ?_⟩; rintro L W1 vs hL0 hLd hJ hd
      have d26 : vs 26 = .pointer (some ⟨b1, 0 + 17, none⟩) := hd 26 (by decide)
      have hk := hJ.1
      obtain ⟨hB, hb1, hb3⟩ := cS hk hB hb1 hb3
      refine ⟨true, fun a _ => rfl, fun _ => (aa [(32, .pointer (some ⟨b1, 0 + 17, none⟩))] ⟨congrArg some d26, trivial⟩ ?_), fun h => by cases h⟩
      refine (Gives.does (ae aw rfl hb1 rfl)).mono ?_
      rintro v W2 ⟨rfl, rfl⟩; exact ⟨rfl, hJ⟩
    · refine ⟨[27], rfl, ?_⟩; rintro L W1 vs hL0 hLd hJ hd
      have d27 : vs 27 = y2 := hd 27 (by decide)
      have hk := hJ.1
      obtain ⟨hB, hb1, hb3⟩ := cS hk hB hb1 hb3
      refine ⟨true, fun a _ => rfl, fun _ => (aa [(33, y2)] ⟨congrArg some d27, trivial⟩ ?_), fun h => by cases h⟩
      refine (Gives.does (ay aA rfl (by first | assumption | exact Own.rd (by assumption) | exact Rd.oC (by assumption) hB | exact Own.rd (Own.oC (by assumption) hB)))).mono ?_
      rintro v W2 ⟨rfl, rfl⟩; exact ⟨rfl, hJ⟩
    · refine ⟨[25, 28], rfl, ?_⟩; rintro L W1 vs hL0 hLd hJ hd
      have d25 : vs 25 = .int .i64 (x.psk.length : Int) := hd 25 (by decide)
      have d28 : vs 28 = .int .i64 (x.nonce.length : Int) := hd 28 (by decide)
      have hk := hJ.1
      obtain ⟨hB, hb1, hb3⟩ := cS hk hB hb1 hb3
      refine ⟨true, fun a _ => rfl, fun _ => (aa [(31, .int .i64 (x.psk.length : Int)), (34, .int .i64 (x.nonce.length : Int))] ⟨congrArg some d25, congrArg some d28, trivial⟩ ?_), fun h => by cases h⟩
      refine (Gives.does (bN rfl rfl (by omega))).mono ?_
      rintro v W2 ⟨rfl, rfl⟩; exact ⟨rfl, hJ⟩
    · refine ⟨[29], rfl, ?_⟩; rintro L W1 vs hL0 hLd hJ hd
      have d29 : vs 29 = .int .i64 ((x.psk.length : Int) + (x.nonce.length : Int)) := hd 29 (by decide)
      have hk := hJ.1
      obtain ⟨hB, hb1, hb3⟩ := cS hk hB hb1 hb3
      refine ⟨true, fun a _ => rfl, fun _ => (aa [(35, .int .i64 ((x.psk.length : Int) + (x.nonce.length : Int)))] ⟨congrArg some d29, trivial⟩ ?_), fun h => by cases h⟩
      refine (Gives.does (bE rfl rfl)).mono ?_
      rintro v W2 ⟨rfl, rfl⟩; exact ⟨rfl, hJ⟩
    · refine ⟨[0, 30], rfl, ?_⟩; rintro L W1 vs hL0 hLd hJ hd
      have d30 : vs 30 = .bool (decide (((x.psk.length : Int) + (x.nonce.length : Int)) = 0)) := hd 30 (by decide)
      have hk := hJ.1
      obtain ⟨hB, hb1, hb3⟩ := cS hk hB hb1 hb3
      refine ⟨true, fun a _ => rfl, fun _ => ?_, fun h => by cases h⟩
      obtain ⟨m, em, hm0, hM⟩ := hJ.2.2 (hLd 0 (by decide))
      refine aa [(9, .map (some m)), (36, .bool (decide (((x.psk.length : Int) + (x.nonce.length : Int)) = 0)))] ⟨congrArg some em, congrArg some d30, trivial⟩ ?_
      refine (kc (a := 4) aX aM rfl rfl rfl (by rw [prV_4, Bool.eq_iff_iff]; simp only [decide_eq_true_eq]; omega) hM).mono ?_
      rintro v W2 ⟨k1, hM2⟩; exact ⟨trivial, gB hJ (i := 31) (by decide) (hLd 0 (by decide)) em hm0 k1 (hM2.sub (fun y hy => by rcases hy with ⟨rfl, h9⟩ | ⟨rfl, h9⟩ | ⟨rfl, h9⟩ | ⟨rfl, h9⟩ | ⟨rfl, h9⟩ <;> first | exact .inl rfl | exact .inr (.inl ⟨rfl, h9⟩) | exact .inr (.inr (.inl ⟨rfl, h9⟩)) | exact .inr (.inr (.inr (.inl ⟨rfl, h9⟩))) | exact .inr (.inr (.inr (.inr (.inl ⟨rfl, h9⟩)))) | exact .inr (.inr (.inr (.inr (.inr ⟨rfl, h9⟩))))))⟩
    · refine ⟨[], rfl, ?_⟩; rintro L W1 vs hL0 hLd hJ hd
      have hk := hJ.1
      obtain ⟨hB, hb1, hb3⟩ := cS hk hB hb1 hb3
      refine ⟨true, fun a _ => rfl, fun _ => (aa [(1, _)] ⟨rfl, trivial⟩ ?_), fun h => by cases h⟩
      refine (Gives.does (ak aH rfl am (by decide) rfl)).mono ?_
      rintro v W2 ⟨rfl, rfl⟩; exact ⟨rfl, hJ⟩
    · refine ⟨[32], rfl, ?_⟩; rintro L W1 vs hL0 hLd hJ hd
      have d32 : vs 32 = .pointer (some ⟨b1, 0 + 18, none⟩) := hd 32 (by decide)
      have hk := hJ.1
      obtain ⟨hB, hb1, hb3⟩ := cS hk hB hb1 hb3
      refine ⟨true, fun a _ => rfl, fun _ => (aa [(37, .pointer (some ⟨b1, 0 + 18, none⟩))] ⟨congrArg some d32, trivial⟩ ?_), fun h => by cases h⟩
      refine (Gives.does (ae aw rfl hb1 rfl)).mono ?_
      rintro v W2 ⟨rfl, rfl⟩; exact ⟨rfl, hJ⟩
    · refine ⟨[33], rfl, ?_⟩; rintro L W1 vs hL0 hLd hJ hd
      have d33 : vs 33 = y3 := hd 33 (by decide)
      have hk := hJ.1
      obtain ⟨hB, hb1, hb3⟩ := cS hk hB hb1 hb3
      refine ⟨true, fun a _ => rfl, fun _ => (aa [(38, y3)] ⟨congrArg some d33, trivial⟩ ?_), fun h => by cases h⟩
      refine (Gives.does (ay aA rfl (by first | assumption | exact Own.rd (by assumption) | exact Rd.oC (by assumption) hB | exact Own.rd (Own.oC (by assumption) hB)))).mono ?_
      rintro v W2 ⟨rfl, rfl⟩; exact ⟨rfl, hJ⟩
    · refine ⟨[34], rfl, ?_⟩; rintro L W1 vs hL0 hLd hJ hd
      have d34 : vs 34 = .int .i64 (x.enc.length : Int) := hd 34 (by decide)
      have hk := hJ.1
      obtain ⟨hB, hb1, hb3⟩ := cS hk hB hb1 hb3
      refine ⟨true, fun a _ => rfl, fun _ => (aa [(39, .int .i64 (x.enc.length : Int))] ⟨congrArg some d34, trivial⟩ ?_), fun h => by cases h⟩
      refine (Gives.does (bE rfl rfl)).mono ?_
      rintro v W2 ⟨rfl, rfl⟩; exact ⟨rfl, hJ⟩
    · refine ⟨[0, 35], rfl, ?_⟩; rintro L W1 vs hL0 hLd hJ hd
      have d35 : vs 35 = .bool (decide ((x.enc.length : Int) = 0)) := hd 35 (by decide)
      have hk := hJ.1
      obtain ⟨hB, hb1, hb3⟩ := cS hk hB hb1 hb3
      refine ⟨true, fun a _ => rfl, fun _ => ?_, fun h => by cases h⟩
      obtain ⟨m, em, hm0, hM⟩ := hJ.2.2 (hLd 0 (by decide))
      refine aa [(9, .map (some m)), (40, .bool (decide ((x.enc.length : Int) = 0)))] ⟨congrArg some em, congrArg some d35, trivial⟩ ?_
      refine (kc (a := 6) aX aM rfl rfl rfl (by rw [prV_6, Bool.eq_iff_iff]; simp only [decide_eq_true_eq]; omega) hM).mono ?_
      rintro v W2 ⟨k1, hM2⟩; exact ⟨trivial, gB hJ (i := 36) (by decide) (hLd 0 (by decide)) em hm0 k1 (hM2.sub (fun y hy => by rcases hy with ⟨rfl, h9⟩ | ⟨rfl, h9⟩ | ⟨rfl, h9⟩ | ⟨rfl, h9⟩ | ⟨rfl, h9⟩ <;> first | exact .inl rfl | exact .inr (.inl ⟨rfl, h9⟩) | exact .inr (.inr (.inl ⟨rfl, h9⟩)) | exact .inr (.inr (.inr (.inl ⟨rfl, h9⟩))) | exact .inr (.inr (.inr (.inr (.inl ⟨rfl, h9⟩)))) | exact .inr (.inr (.inr (.inr (.inr ⟨rfl, h9⟩))))))⟩
  rintro w4 L hL vs hJ hS
  obtain ⟨m, em, hm0, hM⟩ := hJ.2.2 (hL 0 (by decide))
  have kJ := hJ.1
  obtain ⟨hB, hb1, hb3⟩ := cS kJ hB hb1 hb3
  replace hM := hM.sub (ks' := prAll) (fun y hy => by rcases hy with rfl | rfl | rfl | rfl | rfl; exact .inl ⟨rfl, hL 14 (by decide)⟩; exact .inr (.inl ⟨rfl, hL 18 (by decide)⟩); exact .inr (.inr (.inl ⟨rfl, hL 22 (by decide)⟩)); exact .inr (.inr (.inr (.inl ⟨rfl, hL 31 (by decide)⟩))); exact .inr (.inr (.inr (.inr ⟨rfl, hL 36 (by decide)⟩))))
  refine cv [(9, .map (some m)), (0, _), (1, _), (2, _), (7, _), (8, _), (3, _)] ⟨congrArg some em, rfl, rfl, rfl, rfl, rfl, rfl, trivial⟩ (ogm rfl rfl ?_)
  have hml := hM.lt
  refine ah (d_rng (prQ x) aX rfl hM) rfl ?_
  rintro _ w5 ⟨r, rfl, hr0, k4, cn0, hR⟩
  have lr_b1 := hb1.lt
  have lr_b2 := hb3.lt
  obtain ⟨hB, hb1, hb3⟩ := cS k4 hB hb1 hb3
  have ge_r : w.heap.size ≤ r := by omega
  have hmr : m ≠ r := by omega
  have nr_b1 : b1 ≠ r := by omega
  have nr_b2 : b2 ≠ r := by omega
  refine a6 (bA (cO (Γ := Nat) (fun cn => [(1, .pointer (some ⟨b1, 0, none⟩)), (3, .pointer (some ⟨b2, 0, none⟩)), (42, .pointer (some ⟨r, 0, none⟩))]) (fun cn W => MpR W m r (prV x) prAll (prQ x) cn ∧ Bk W b1 34 [.int .i64 x.kind, i, e, s, n, .int .i64 x.pk.leaf.src, h, g, gg, e2, s2, n2, .int .i64 x.lf.src, h2, g2, .int .i64 x.ix, y1, y2, y3] ∧ Bk W b2 32 [i, e, s, n, .int .i64 x.pk.leaf.src, h, g, gg] ∧ Keep [] w W) (fun cn => cn) cn0 ⟨rfl, rfl, rfl, trivial⟩ (⟨hR, hb1, hb3, hB⟩) ?_))
  rintro cn w6 ⟨hR, hbx1, hbx2, hB⟩
  refine af [(1, .pointer (some ⟨b1, 0, none⟩)), (3, .pointer (some ⟨b2, 0, none⟩)), (42, .pointer (some ⟨r, 0, none⟩))] ⟨rfl, rfl, rfl, trivial⟩ (a5 (aZ (ah (d_nxtU rfl hmr hR) rfl ?_)))
  rintro _ w7 ⟨bo, rest, rfl, k5, hN, hY⟩
  replace hbx1 := hbx1.keep k5 (nm nr_b1)
  replace hbx2 := hbx2.keep k5 (nm nr_b2)
  replace hB := hB.new k5 (fun y hy => .inl ((List.mem_singleton.1 hy) ▸ ge_r))
  refine a7 (bH (vs := .bool bo :: rest) rfl rfl) rfl (a6 (a5 (bD rfl (fun hc1 => ?_) (fun hc1 => ?_))))
  · -- yes
    have hd1 := hc1
    try (simp only [Bool.and_eq_true, Bool.or_eq_true, decide_eq_true_eq, Bool.and_eq_false_iff, Bool.or_eq_false_iff, decide_eq_false_iff_not, Bool.not_eq_true', Bool.not_eq_false', Bool.not_eq_true, Bool.not_eq_false, ne_eq, Decidable.not_not, decide_true, decide_false, Bool.true_and, Bool.false_and, Bool.or_false, Bool.false_or, not_true_eq_false, false_or, or_false, true_and, and_true, not_false_eq_true, reduceCtorEq] at hd1)
    refine aj (bA (a5 (aZ ?_)))
    obtain ⟨y, c2, hlt, hE⟩ := hY hc1
    refine a7 (g_ent rfl hE) rfl (a7 (bH (vs := [_, _]) rfl rfl) rfl (a7 (bH (vs := [_, _]) rfl rfl) rfl (oga rfl rfl (oga rfl rfl (a6 (a5 (aZ (ogm rfl rfl ?_))))))))
    refine a7 (ak aH rfl bh (by decide) rfl) rfl (a7 (ae cY rfl hbx1 rfl) rfl (a7 (bn rfl rfl) rfl (ogm rfl rfl (aq 52 true rfl (fun c1 hgc1 => a9 [(5, _)] (ad rfl rfl rfl hgc1) ⟨bB rfl, trivial⟩ (fun hw1 => bC rfl) rfl (a9 [(53, _)] (ad rfl rfl rfl hgc1) ⟨ag rfl, trivial⟩ (fun hw2 => cd rfl) rfl (a7 (bM rfl rfl hgc1) rfl (a6 ?_))))))))
    refine af [(1, _), (3, _), (42, _), (55, _)] ⟨rfl, rfl, rfl, rfl, trivial⟩ (bD rfl (fun hc2 => ?_) (fun hc2 => ?_))
    · -- yes
      have hd2 := hc2
      try (simp only [Bool.and_eq_true, Bool.or_eq_true, decide_eq_true_eq, Bool.and_eq_false_iff, Bool.or_eq_false_iff, decide_eq_false_iff_not, Bool.not_eq_true', Bool.not_eq_false', Bool.not_eq_true, Bool.not_eq_false, ne_eq, Decidable.not_not, decide_true, decide_false, Bool.true_and, Bool.false_and, Bool.or_false, Bool.false_or, not_true_eq_false, false_or, or_false, true_and, and_true, not_false_eq_true, reduceCtorEq] at hd2)
      refine a5 (aZ (oga rfl rfl (a6 (al hfin Try.results26 rfl ?_))))
      have hno : prBare x = false := by
        simp only [Bool.and_eq_true, decide_eq_true_eq, Bool.not_eq_true'] at hc2
        exact m9 hc2.1 hc2.2
      exact ⟨by unfold prOk; rw [hno]; rfl, hB⟩
    · -- no
      have hd3 := hc2
      try (simp only [Bool.and_eq_true, Bool.or_eq_true, decide_eq_true_eq, Bool.and_eq_false_iff, Bool.or_eq_false_iff, decide_eq_false_iff_not, Bool.not_eq_true', Bool.not_eq_false', Bool.not_eq_true, Bool.not_eq_false, ne_eq, Decidable.not_not, decide_true, decide_false, Bool.true_and, Bool.false_and, Bool.or_false, Bool.false_or, not_true_eq_false, false_or, or_false, true_and, and_true, not_false_eq_true, reduceCtorEq] at hd3)
      refine aj (cG (cP (Γ := Nat) c2 ⟨rfl, rfl, rfl, trivial⟩ (by (try dsimp only); omega) (⟨hE.next (by unfold prQ; assumption), hbx1, hbx2, hB⟩)))
  · -- no
    have hd4 := hc1
    try (simp only [Bool.and_eq_true, Bool.or_eq_true, decide_eq_true_eq, Bool.and_eq_false_iff, Bool.or_eq_false_iff, decide_eq_false_iff_not, Bool.not_eq_true', Bool.not_eq_false', Bool.not_eq_true, Bool.not_eq_false, ne_eq, Decidable.not_not, decide_true, decide_false, Bool.true_and, Bool.false_and, Bool.or_false, Bool.false_or, not_true_eq_false, false_or, or_false, true_and, and_true, not_false_eq_true, reduceCtorEq] at hd4)
    refine bd rfl (a5 (aZ ?_))
    have hbare := lE (hN hc1)
    refine oga rfl rfl (a6 (a5 (a5 (aZ (a7 (ak aH rfl bh (by decide) rfl) rfl (a7 (ae cY rfl hbx1 rfl) rfl (a6 (bA ?_))))))))
    refine a5 (aZ (a7 (bE rfl rfl) rfl (oga rfl rfl (a6 (bF rfl (fun hc3 => ?_) (fun hc3 => ?_))))))
    · -- yes
      refine aZ (a7 (au (cs' := [_, _, _, _, _, _, _, _]) fu cg rfl hbx2 rfl rfl) rfl (ah (ab (vs := [_]) rfl (gT _ _ _ _ _ _ _ x.pk _ (by first | assumption | exact Own.rd (by assumption) | exact Rd.oC (by assumption) hB | exact Own.rd (Own.oC (by assumption) hB)) (by first | assumption | exact Own.rd (by assumption) | exact Rd.oC (by assumption) hB | exact Own.rd (Own.oC (by assumption) hB)) (by first | assumption | exact Own.rd (by assumption) | exact Rd.oC (by assumption) hB | exact Own.rd (Own.oC (by assumption) hB)) (by first | assumption | exact Own.rd (by assumption) | exact Rd.oC (by assumption) hB | exact Own.rd (Own.oC (by assumption) hB)) (by first | assumption | exact Own.rd (by assumption) | exact Rd.oC (by assumption) hB | exact Own.rd (Own.oC (by assumption) hB)) (by first | assumption | exact Own.rd (by assumption) | exact Rd.oC (by assumption) hB | exact Own.rd (Own.oC (by assumption) hB)) (by first | assumption | exact Own.rd (by assumption) | exact Rd.oC (by assumption) hB | exact Own.rd (Own.oC (by assumption) hB)))) rfl ?_))
      rintro _ w8 ⟨u1, rfl, o1, k6⟩
      have gl_o1 := hB.size
      obtain ⟨hB, hbx1, hbx2⟩ := cS k6 hB hbx1 hbx2
      refine ogm rfl rfl (a7 (bH (vs := [_, _]) rfl rfl) rfl (a7 (bH (vs := [_, _]) rfl rfl) rfl (oga rfl rfl (a6 (af [(6, _)] ⟨rfl, trivial⟩ (cG (a5 (aZ ?_))))))))
      refine ogm rfl rfl (a7 (bE rfl rfl) rfl (oga rfl rfl (a6 (al hfin Try.results26 rfl ?_))))
      refine ⟨congrArg Value.bool ?_, hB⟩
      unfold prOk; rw [hbare, Bool.true_and]; unfold prKind; (repeat' split) <;> first | (exfalso; omega) | rfl | (cases pkOk x.pk <;> rfl) | (rw [decide_eq_false (by omega), Bool.and_false]; done) | (rw [decide_eq_true (show x.lf.src = 2 by omega), Bool.and_true]; cases leafOk x.lf <;> rfl) | (rw [Bool.eq_iff_iff]; simp only [Bool.and_eq_true, decide_eq_true_eq] <;> omega)
    · -- no
      refine a5 (aZ (a7 (bE rfl rfl) rfl (oga rfl rfl (a6 (bF rfl (fun hc4 => ?_) (fun hc4 => ?_))))))
      · -- yes
        refine a5 (a5 (aZ (a7 (ak aH rfl bk (by decide) rfl) rfl (a7 (ak aE rfl bh (by decide) rfl) rfl (a7 (ae cY rfl hbx1 rfl) rfl (a7 (bn rfl rfl) rfl (a6 (af [(1, _), (70, _)] ⟨rfl, rfl, trivial⟩ ?_))))))))
        refine bF rfl (fun hc5 => ?_) (fun hc5 => ?_)
        · -- yes
          refine a5 (aZ (oga rfl rfl (a6 (al hfin Try.results26 rfl ?_))))
          refine ⟨congrArg Value.bool ?_, hB⟩
          unfold prOk; rw [hbare, Bool.true_and]; unfold prKind; (repeat' split) <;> first | (exfalso; omega) | rfl | (cases pkOk x.pk <;> rfl) | (rw [decide_eq_false (by omega), Bool.and_false]; done) | (rw [decide_eq_true (show x.lf.src = 2 by omega), Bool.and_true]; cases leafOk x.lf <;> rfl) | (rw [Bool.eq_iff_iff]; simp only [Bool.and_eq_true, decide_eq_true_eq] <;> omega)
        · -- no
          refine aj (aZ (a7 (ak aH rfl bk (by decide) rfl) rfl (a7 (au (cs' := [_, _, _, _, _, _]) dt bk rfl hbx1 rfl rfl) rfl (ah (ab (vs := [_]) rfl (fK _ _ _ _ _ x.lf _ (by first | assumption | exact Own.rd (by assumption) | exact Rd.oC (by assumption) hB | exact Own.rd (Own.oC (by assumption) hB)) (by first | assumption | exact Own.rd (by assumption) | exact Rd.oC (by assumption) hB | exact Own.rd (Own.oC (by assumption) hB)) (by first | assumption | exact Own.rd (by assumption) | exact Rd.oC (by assumption) hB | exact Own.rd (Own.oC (by assumption) hB)) (by first | assumption | exact Own.rd (by assumption) | exact Rd.oC (by assumption) hB | exact Own.rd (Own.oC (by assumption) hB)) (by first | assumption | exact Own.rd (by assumption) | exact Rd.oC (by assumption) hB | exact Own.rd (Own.oC (by assumption) hB)))) rfl ?_))))
          rintro _ w9 ⟨u2, rfl, o2, k7⟩
          have gl_o2 := hB.size
          obtain ⟨hB, hbx1⟩ := bX k7 hB hbx1
          refine ogm rfl rfl (a7 (bH (vs := [_, _]) rfl rfl) rfl (a7 (bH (vs := [_, _]) rfl rfl) rfl (oga rfl rfl (a6 (cG (a5 (aZ (ogm rfl rfl ?_))))))))
          refine a7 (bE rfl rfl) rfl (oga rfl rfl (a6 (af [(2, _)] ⟨rfl, trivial⟩ (al hfin Try.results26 rfl ?_))))
          refine ⟨congrArg Value.bool ?_, hB⟩
          unfold prOk; rw [hbare, Bool.true_and]; unfold prKind; (repeat' split) <;> first | (exfalso; omega) | rfl | (cases pkOk x.pk <;> rfl) | (rw [decide_eq_false (by omega), Bool.and_false]; done) | (rw [decide_eq_true (show x.lf.src = 2 by omega), Bool.and_true]; cases leafOk x.lf <;> rfl) | (rw [Bool.eq_iff_iff]; simp only [Bool.and_eq_true, decide_eq_true_eq] <;> omega)
      · -- no
        refine a5 (aZ (a7 (bE rfl rfl) rfl (oga rfl rfl (a6 (af [(1, _), (57, _), (77, _)] ⟨rfl, rfl, rfl, trivial⟩ (bF rfl (fun hc6 => ?_) (fun hc6 => ?_)))))))
        · -- yes
          refine a5 (aZ (a7 (ak aH rfl bh (by decide) rfl) rfl (a7 (ae cY rfl hbx1 rfl) rfl (a7 (gW rfl rfl) rfl (ogm rfl rfl (aq 82 true rfl (fun c2 hgc2 => a9 [(1, _)] (ad rfl rfl rfl hgc2) ⟨bB rfl, trivial⟩ (fun hw3 => ak aH rfl bh (by decide) rfl) rfl (a9 [(83, _)] (ad rfl rfl rfl hgc2) ⟨ag rfl, trivial⟩ (fun hw4 => ae cY rfl hbx1 rfl) rfl ?_))))))))
          refine a9 [(84, _)] (ad rfl rfl rfl hgc2) ⟨ag rfl, trivial⟩ (fun hw5 => cN rfl rfl) rfl (a7 (bM rfl rfl hgc2) rfl (oga rfl rfl (a6 (af [(2, _)] ⟨rfl, trivial⟩ (al hfin Try.results26 rfl ?_)))))
          refine ⟨congrArg Value.bool ?_, hB⟩
          unfold prOk; rw [hbare, Bool.true_and]; unfold prKind; (repeat' split) <;> first | (exfalso; omega) | rfl | (cases pkOk x.pk <;> rfl) | (rw [decide_eq_false (by omega), Bool.and_false]; done) | (rw [decide_eq_true (show x.lf.src = 2 by omega), Bool.and_true]; cases leafOk x.lf <;> rfl) | (rw [Bool.eq_iff_iff]; simp only [Bool.and_eq_true, decide_eq_true_eq] <;> omega)
        · -- no
          refine a5 (aZ (a7 (bE rfl rfl) rfl (oga rfl rfl (a6 (bF rfl (fun hc7 => ?_) (fun hc7 => ?_))))))
          · -- yes
            refine a5 (aZ (a7 (ak aH rfl am (by decide) rfl) rfl (a7 (ae aw rfl hbx1 rfl) rfl (a7 (ay aA rfl (by first | assumption | exact Own.rd (by assumption) | exact Rd.oC (by assumption) hB | exact Own.rd (Own.oC (by assumption) hB))) rfl (a7 (gW rfl rfl) rfl (ogm rfl rfl (aq 93 true rfl (fun c3 hgc3 => a9 [(1, _)] (ad rfl rfl rfl hgc3) ⟨bB rfl, trivial⟩ (fun hw6 => ak aH rfl am (by decide) rfl) rfl ?_))))))))
            refine a9 [(94, _)] (ad rfl rfl rfl hgc3) ⟨ag rfl, trivial⟩ (fun hw7 => ae aw rfl hbx1 rfl) rfl (a9 [(95, _)] (ad rfl rfl rfl hgc3) ⟨ag rfl, trivial⟩ (fun hw8 => ay aA rfl (by first | assumption | exact Own.rd (by assumption) | exact Rd.oC (by assumption) hB | exact Own.rd (Own.oC (by assumption) hB))) rfl (a9 [(96, _)] (ad rfl rfl rfl hgc3) ⟨ag rfl, trivial⟩ (fun hw9 => g_le rfl rfl) rfl (a7 (bM rfl rfl hgc3) rfl (ogm rfl rfl (aq 99 true rfl (fun c4 hgc4 => a9 [(1, _)] (ad rfl rfl rfl hgc4) ⟨bB rfl, trivial⟩ (fun hw10 => ak aH rfl am (by decide) rfl) rfl (a9 [(100, _)] (ad rfl rfl rfl hgc4) ⟨ag rfl, trivial⟩ (fun hw11 => ae aw rfl hbx1 rfl) rfl (a9 [(101, _)] (ad rfl rfl rfl hgc4) ⟨ag rfl, trivial⟩ (fun hw12 => ay aA rfl (by first | assumption | exact Own.rd (by assumption) | exact Rd.oC (by assumption) hB | exact Own.rd (Own.oC (by assumption) hB))) rfl ?_))))))))
            refine a9 [(102, _)] (ad rfl rfl rfl hgc4) ⟨ag rfl, trivial⟩ (fun hw13 => bE rfl rfl) rfl (a7 (bM rfl rfl hgc4) rfl (oga rfl rfl (a6 (af [(2, _)] ⟨rfl, trivial⟩ (al hfin Try.results26 rfl ?_)))))
            refine ⟨congrArg Value.bool ?_, hB⟩
            unfold prOk; rw [hbare, Bool.true_and]; unfold prKind; (repeat' split) <;> first | (exfalso; omega) | rfl | (cases pkOk x.pk <;> rfl) | (rw [decide_eq_false (by omega), Bool.and_false]; done) | (rw [decide_eq_true (show x.lf.src = 2 by omega), Bool.and_true]; cases leafOk x.lf <;> rfl) | (rw [Bool.eq_iff_iff]; simp only [Bool.and_eq_true, decide_eq_true_eq] <;> omega)
          · -- no
            refine a5 (aZ (a7 (bE rfl rfl) rfl (oga rfl rfl (a6 (bF rfl (fun hc8 => ?_) (fun hc8 => ?_))))))
            · -- yes
              refine a5 (aZ (a7 (ak aH rfl am (by decide) rfl) rfl (a7 (ae aw rfl hbx1 rfl) rfl (a7 (ay aA rfl (by first | assumption | exact Own.rd (by assumption) | exact Rd.oC (by assumption) hB | exact Own.rd (Own.oC (by assumption) hB))) rfl (a7 (bE rfl rfl) rfl (oga rfl rfl (a6 (af [(2, _)] ⟨rfl, trivial⟩ ?_))))))))
              refine al hfin Try.results26 rfl ?_
              refine ⟨congrArg Value.bool ?_, hB⟩
              unfold prOk; rw [hbare, Bool.true_and]; unfold prKind; (repeat' split) <;> first | (exfalso; omega) | rfl | (cases pkOk x.pk <;> rfl) | (rw [decide_eq_false (by omega), Bool.and_false]; done) | (rw [decide_eq_true (show x.lf.src = 2 by omega), Bool.and_true]; cases leafOk x.lf <;> rfl) | (rw [Bool.eq_iff_iff]; simp only [Bool.and_eq_true, decide_eq_true_eq] <;> omega)
            · -- no
              refine a5 (aZ (oga rfl rfl (a6 (al hfin Try.results26 rfl ?_))))
              refine ⟨congrArg Value.bool ?_, hB⟩
              unfold prOk; rw [hbare, Bool.true_and]; unfold prKind; (repeat' split) <;> first | (exfalso; omega) | rfl | (cases pkOk x.pk <;> rfl) | (rw [decide_eq_false (by omega), Bool.and_false]; done) | (rw [decide_eq_true (show x.lf.src = 2 by omega), Bool.and_true]; cases leafOk x.lf <;> rfl) | (rw [Bool.eq_iff_iff]; simp only [Bool.and_eq_true, decide_eq_true_eq] <;> omega)
theorem hP {a : List UInt8} (h : a.length ≤ 1000) : vecsB [a] = vec a ∧ (vecsB [a]).length ≤ 1004 := by
 have e : vecsB [a] = vec a := by
   unfold vecsB
   rw [if_pos (by intro y hy; simp only [List.mem_cons, List.not_mem_nil, or_false] at hy; subst hy; omega)]
   simp [vecs]
 refine ⟨e, ?_⟩
 have := av a.length
 rw [e]; unfold vec; rw [List.length_append]; omega
theorem mv {a b : List UInt8} (h : a.length ≤ 1000) (h2 : b.length ≤ 1000) : vecsB [a, b] = vec a ++ vec b ∧ (vecsB [a, b]).length ≤ 2008 := by
 have e : vecsB [a, b] = vec a ++ vec b := by
   unfold vecsB
   rw [if_pos (by intro y hy; simp only [List.mem_cons, List.not_mem_nil, or_false] at hy; rcases hy with rfl | rfl <;> omega)]
   simp [vecs]
 refine ⟨e, ?_⟩
 have e1 := av a.length; have e2 := av b.length
 rw [e]; unfold vec; simp only [List.length_append]; omega
theorem numB_4 {n : Int} (h : 0 ≤ n ∧ n < 64) : numB 32 n 4 = be n 4 := by
 have : n / 2 ^ (32 : Int).toNat = 0 := by
   have e : (2 : Int) ^ (32 : Int).toNat = 4294967296 := rfl
   rw [e]; omega
 have e : numE 32 n = 0 := by unfold numE; rw [if_neg (by decide), if_neg (by omega)]
 unfold numB; rw [e, if_pos rfl]; rfl
theorem db (v : Value) (ls : List (List UInt8)) (lo : Nat) (w : World) (h : SlL w lo 22 v ls) (hsum : (vecs ls).length ≤ 140737488355328 ∨ ls.length ≤ 1000) : Rets Try.prog 28 [v] w (fun u w' => OwnB w' w.heap.size u (vecsB ls) ∧ Keep [] w w') := by
 have hB : Keep [] w w := Keep.refl _ _
 obtain ⟨us, h1, h2, h3⟩ := h
 replace h3 := h3.rd
 rw [← h1] at h3
 refine ai Try.func28 rfl (by decide) Try.ntmps28 rfl (fun fin _ hfin => a5 (aZ (oga rfl rfl (a6 (a5 (aZ (ogm rfl rfl (ah (ab (vs := [_]) rfl (eW _ us ls _ (Rd.oC h3 hB) (RdL.oC h2 hB) hsum)) rfl ?_))))))))
 rintro _ w1 ⟨v1, rfl, o1, k1⟩
 replace hB := hB.trans k1
 refine ogm rfl rfl (a7 (bH (vs := [_, _]) rfl rfl) rfl (a7 (bH (vs := [_, _]) rfl rfl) rfl (oga rfl rfl (oga rfl rfl (a6 (a5 (aZ (ogm rfl rfl (oga rfl rfl (a6 (al hfin Try.results28 rfl ?_)))))))))))
 exact ⟨‹OwnB _ _ _ _›.lo (Nat.le_refl _), hB⟩
theorem eQ (i e s n h g gg e2 s2 n2 h2 g2 y1 y2 y3 : Value) (x : Pr) (w : World) (hi : RdB w i x.pk.init) (he : RdB w e x.pk.leaf.enc) (hs : RdB w s x.pk.leaf.sig) (hn : RdB w n x.pk.leaf.name) (hh : RdB w h x.pk.leaf.hash) (hg : RdB w g x.pk.leaf.sg) (hgg : RdB w gg x.pk.sg) (he2 : RdB w e2 x.lf.enc) (hs2 : RdB w s2 x.lf.sig) (hn2 : RdB w n2 x.lf.name) (hh2 : RdB w h2 x.lf.hash) (hg2 : RdB w g2 x.lf.sg) (hy1 : RdB w y1 x.psk) (hy2 : RdB w y2 x.nonce) (hy3 : RdB w y3 x.enc) (t0 : x.pk.init.length ≤ 140737488351232) (t1 : x.pk.leaf.enc.length ≤ 140737488351232) (t2 : x.pk.leaf.sig.length ≤ 140737488351232) (t3 : x.pk.leaf.name.length ≤ 140737488351232) (t4 : x.pk.leaf.hash.length ≤ 140737488351232) (t5 : x.pk.leaf.sg.length ≤ 140737488351232) (t6 : x.pk.sg.length ≤ 140737488351232) (t7 : x.lf.enc.length ≤ 140737488351232) (t8 : x.lf.sig.length ≤ 140737488351232) (t9 : x.lf.name.length ≤ 140737488351232) (t10 : x.lf.hash.length ≤ 140737488351232) (t11 : x.lf.sg.length ≤ 140737488351232) (t12 : x.psk.length ≤ 140737488351232) (t13 : x.nonce.length ≤ 140737488351232) (t14 : x.enc.length ≤ 140737488351232) : Rets Try.prog 7 [.agg [.int .i64 x.kind, i, e, s, n, .int .i64 x.pk.leaf.src, h, g, gg, e2, s2, n2, .int .i64 x.lf.src, h2, g2, .int .i64 x.ix, y1, y2, y3].toArray] w (fun r w' => ∃ u, r = .tuple #[u, .int .i64 (bif prOk x then 0 else 1)] ∧ OwnB w' w.heap.size u (bif prOk x then prB x else []) ∧ Keep [] w w') := by
 have hB : Keep [] w w := Keep.refl _ _
 refine ai Try.func7 rfl (by decide) Try.ntmps7 rfl (fun fin _ hfin => a5 (aZ (ah (bc (cs := [.int .i64 x.kind, i, e, s, n, .int .i64 x.pk.leaf.src, h, g, gg, e2, s2, n2, .int .i64 x.lf.src, h2, g2, .int .i64 x.ix, y1, y2, y3]) rfl rfl) rfl ?_)))
 rintro _ w1 ⟨b1, rfl, eb1, hb1, k1, z1⟩
 have ge_b1 : w.heap.size ≤ b1 := by have := hB.size; omega
 replace hB := hB.trans k1
 clear eb1 z1
 refine oga rfl rfl (oga rfl rfl (a6 (a5 (a5 (aZ (a7 (au (cs' := [_, _, _, _, _, _, _, _, _, _, _, _, _, _, _, _, _, _, _]) dY bz rfl hb1 rfl rfl) rfl ?_))))))
 refine ah (ab (vs := [_]) rfl (kw _ _ _ _ _ _ _ _ _ _ _ _ _ _ _ x _ (by first | assumption | exact Own.rd ‹_› | exact Rd.oC ‹_› hB | exact Own.rd (Own.oC ‹_› hB)) (by first | assumption | exact Own.rd ‹_› | exact Rd.oC ‹_› hB | exact Own.rd (Own.oC ‹_› hB)) (by first | assumption | exact Own.rd ‹_› | exact Rd.oC ‹_› hB | exact Own.rd (Own.oC ‹_› hB)) (by first | assumption | exact Own.rd ‹_› | exact Rd.oC ‹_› hB | exact Own.rd (Own.oC ‹_› hB)) (by first | assumption | exact Own.rd ‹_› | exact Rd.oC ‹_› hB | exact Own.rd (Own.oC ‹_› hB)) (by first | assumption | exact Own.rd ‹_› | exact Rd.oC ‹_› hB | exact Own.rd (Own.oC ‹_› hB)) (by first | assumption | exact Own.rd ‹_› | exact Rd.oC ‹_› hB | exact Own.rd (Own.oC ‹_› hB)) (by first | assumption | exact Own.rd ‹_› | exact Rd.oC ‹_› hB | exact Own.rd (Own.oC ‹_› hB)) (by first | assumption | exact Own.rd ‹_› | exact Rd.oC ‹_› hB | exact Own.rd (Own.oC ‹_› hB)) (by first | assumption | exact Own.rd ‹_› | exact Rd.oC ‹_› hB | exact Own.rd (Own.oC ‹_› hB)) (by first | assumption | exact Own.rd ‹_› | exact Rd.oC ‹_› hB | exact Own.rd (Own.oC ‹_› hB)) (by first | assumption | exact Own.rd ‹_› | exact Rd.oC ‹_› hB | exact Own.rd (Own.oC ‹_› hB)) (by first | assumption | exact Own.rd ‹_› | exact Rd.oC ‹_› hB | exact Own.rd (Own.oC ‹_› hB)) (by first | assumption | exact Own.rd ‹_› | exact Rd.oC ‹_› hB | exact Own.rd (Own.oC ‹_› hB)) (by first | assumption | exact Own.rd ‹_› | exact Rd.oC ‹_› hB | exact Own.rd (Own.oC ‹_› hB)) t0 t1 t2 t3 t4 t5 t6 t7 t8 t9 t10 t11 t12 t13 t14)) rfl ?_
 rintro _ w2 ⟨rfl, k2⟩
 obtain ⟨hB, hb1⟩ := bX k2 hB hb1
 refine a7 (cd rfl) rfl (a6 (bD rfl (fun hc1 => ?_) (fun hc1 => ?_)))
 ·
  have hd1 := hc1
  try (simp only [Bool.and_eq_true, Bool.or_eq_true, decide_eq_true_eq, Bool.and_eq_false_iff, Bool.or_eq_false_iff, decide_eq_false_iff_not, Bool.not_eq_true', Bool.not_eq_false', Bool.not_eq_true, Bool.not_eq_false, ne_eq, Decidable.not_not, decide_true, decide_false, Bool.true_and, Bool.false_and, Bool.or_false, Bool.false_or, not_true_eq_false, false_or, or_false, true_and, and_true, not_false_eq_true, reduceCtorEq] at hd1)
  refine a5 (aZ (oga rfl rfl (oga rfl rfl (a6 (bO hfin Try.results7 rfl rfl ?_)))))
  have hok : prOk x = false := by simpa using hc1
  exact ⟨_, by rw [hok]; rfl, by rw [hok]; exact a8 _ _ _ _, hB⟩
 ·
  have hd2 := hc1
  try (simp only [Bool.and_eq_true, Bool.or_eq_true, decide_eq_true_eq, Bool.and_eq_false_iff, Bool.or_eq_false_iff, decide_eq_false_iff_not, Bool.not_eq_true', Bool.not_eq_false', Bool.not_eq_true, Bool.not_eq_false, ne_eq, Decidable.not_not, decide_true, decide_false, Bool.true_and, Bool.false_and, Bool.or_false, Bool.false_or, not_true_eq_false, false_or, or_false, true_and, and_true, not_false_eq_true, reduceCtorEq] at hd2)
  refine aj (a5 (aZ (a7 (ak aH rfl bh (by decide) rfl) rfl (a7 (ae cY rfl hb1 rfl) rfl (a7 (lW (by rw [aM]; rfl) aG rfl) rfl ?_)))))
  have hok : prOk x = true := by simpa using hc1
  have ltb1 := hb1.lt
  refine ah (de (m := 2) (xs := [.const (.int .u8 (0)), .tmp 13]) (vs := [_, _]) aA cT (by decide) rfl rfl rfl (by simp only [List.forall_mem_cons]; exact ⟨rfl, rfl, fun v hv => by cases hv⟩) (by decide)) rfl ?_
  rintro v1 w3 ⟨o1, nn1, lb1, k3, z2⟩
  have gl_o1 := hB.size
  obtain ⟨hB, hb1⟩ := bX k3 hB hb1
  replace o1 : OwnB w3 (b1 + 1) v1 [0, byteAt x.kind 0] := (show Own _ _ _ 1 _ 2 _ from iJ (o1.lo ltb1) (by rw [bZ, IntKind.wrap_u8]; simp))
  have m0 : ([0, byteAt x.kind 0] : List UInt8).length = 2 := rfl
  refine oga rfl rfl (a6 (af [(1, _), (4, _)] ⟨rfl, rfl, trivial⟩ (a5 (aZ (oga rfl rfl (a6 (a5 (a5 (aZ (a7 (ak aH rfl bh (by decide) rfl) rfl (a7 (ae cY rfl hb1 rfl) rfl (a6 (bA (a5 (bA (a5 (bA (a5 (bA (a5 (bA (a5 (bA (a5 (bA (a5 (a5 (a5 (aZ (a7 (bE rfl rfl) rfl (oga rfl rfl (a6 (bF rfl (fun hc2 => ?_) (fun hc2 => ?_))))))))))))))))))))))))))))))))))
  ·
   refine bd rfl (a5 (a5 (aZ ?_)))
   have m1 : (be x.ix 4).length = 4 := bi _ _
   refine a7 (ak aH rfl bh (by decide) rfl) rfl (a7 (ae cY rfl hb1 rfl) rfl (ah (ab (vs := [_, _]) rfl (iK x.ix 4 (by decide) _)) rfl ?_))
   rintro _ w4 ⟨u1, rfl, o2, k4⟩
   have gl_o2 := hB.size
   replace hb1 := hb1.oC k4
   replace o1 := o1.oC k4
   replace hB := hB.trans k4
   rw [show bitsOf 4 = 32 from by decide, numB_4 (lD hok (by omega))] at o2
   replace o2 : OwnB w4 _ u1 (be x.ix 4) := o2
   refine ogm rfl rfl (a7 (bH (vs := [_, _]) rfl rfl) rfl (a7 (bH (vs := [_, _]) rfl rfl) rfl (oga rfl rfl (oga rfl rfl (a6 (af [(4, _), (6, _)] ⟨rfl, rfl, trivial⟩ (a5 (aZ (ogm rfl rfl (ogm rfl rfl ?_))))))))))
   have lt_o3 := hb1.lt
   refine ah (bW aA cT rfl o1 rfl (show RdB _ _ _ from o2.rd) (by first | omega | (simp only [List.length_append] at *; omega)) (by omega)) rfl ?_
   rintro v2 w5 ⟨o3, k5, lb2, _⟩
   replace hB := hB.new k5 (fun x hx => .inl (Nat.le_trans ge_b1 (Nat.le_of_lt (o1.blk x hx).1)))
   replace hb1 := hb1.keep k5 (fun hm => absurd (o1.blk _ hm).1 (Nat.lt_irrefl _))
   refine oga rfl rfl (oga rfl rfl (a6 (bO hfin Try.results7 rfl rfl ?_)))
   have hh := o3
   exact ⟨_, by rw [hok]; rfl, by rw [hok]; exact (show OwnB _ _ _ (prB x) from by have e : [0, byteAt x.kind 0] ++ be x.ix 4 = prB x := (by unfold prB prX; rw [if_neg (by omega), if_neg (by omega), if_pos (by omega)]); unfold OwnB; rw [← e]; simp only [List.length_append] at hh ⊢; exact hh).lo (by omega), hB⟩
  ·
   refine aj (a5 (a5 (aZ (a7 (bE rfl rfl) rfl (oga rfl rfl (a6 (bF rfl (fun hc3 => ?_) (fun hc3 => ?_))))))))
   ·
    refine bd rfl (a5 (a5 (aZ (ogm rfl rfl ?_))))
    have q1 := jX hok (by omega)
    obtain ⟨e1, m1⟩ := mv (a := x.psk) (b := x.nonce) (by omega) (by omega)
    refine a7 (ak aH rfl am (by decide) rfl) rfl (a7 (ae aw rfl hb1 rfl) rfl (a7 (ak aH rfl am (by decide) rfl) rfl (a7 (ae aw rfl hb1 rfl) rfl (ah (cf (m := 2) (ls := [x.psk, x.nonce]) (xs := [.tmp 38, .tmp 40]) (us := [_, _]) aJ am rfl rfl (bL (by first | exact Rd.nil _ _ | exact (by first | assumption | exact Own.rd ‹_› | exact Rd.oC ‹_› hB | exact Own.rd (Own.oC ‹_› hB))) (bL (by first | exact Rd.nil _ _ | exact (by first | assumption | exact Own.rd ‹_› | exact Rd.oC ‹_› hB | exact Own.rd (Own.oC ‹_› hB))) (bb _))) rfl rfl) rfl ?_))))
    rintro v3 w6 ⟨sl1, k6⟩
    replace hb1 := hb1.oC k6
    replace o1 := o1.oC k6
    replace hB := hB.trans k6
    refine ah (ab (vs := [_]) rfl (db _ [x.psk, x.nonce] _ _ ‹_› (.inr (by simp)))) rfl ?_
    rintro v4 w7 ⟨o5, k7⟩
    have gl_o5 := hB.size
    replace hb1 := hb1.oC k7
    replace o1 := o1.oC k7
    replace sl1 := sl1.oC k7
    replace hB := hB.trans k7
    have lt_o6 := hb1.lt
    refine ah (bW aA cT rfl o1 rfl (show RdB _ _ _ from o5.rd) (by first | omega | (simp only [List.length_append] at *; omega)) (by omega)) rfl ?_
    rintro v5 w8 ⟨o6, k8, lb3, _⟩
    replace hB := hB.new k8 (fun x hx => .inl (Nat.le_trans ge_b1 (Nat.le_of_lt (o1.blk x hx).1)))
    replace hb1 := hb1.keep k8 (fun hm => absurd (o1.blk _ hm).1 (Nat.lt_irrefl _))
    refine oga rfl rfl (oga rfl rfl (a6 (af [(2, _), (3, _)] ⟨rfl, rfl, trivial⟩ (bO hfin Try.results7 rfl rfl ?_))))
    have hh := o6
    exact ⟨_, by rw [hok]; rfl, by rw [hok]; exact (show OwnB _ _ _ (prB x) from by have e : [0, byteAt x.kind 0] ++ vecsB [x.psk, x.nonce] = prB x := (by unfold prB prX; rw [e1, if_neg (by omega), if_neg (by omega), if_neg (by omega), if_pos (by omega)]); unfold OwnB; rw [← e]; simp only [List.length_append] at hh ⊢; exact hh).lo (by omega), hB⟩
   ·
    refine aj (a5 (a5 (aZ (a7 (bE rfl rfl) rfl (oga rfl rfl (a6 (bF rfl (fun hc4 => ?_) (fun hc4 => ?_))))))))
    ·
     refine bd rfl (a5 (aZ (a7 (ak aH rfl cg (by decide) rfl) rfl (a7 (au (cs' := [_, _, _, _, _, _, _, _]) fu cg rfl hb1 rfl rfl) rfl (ah (ab (vs := [_]) rfl (gT _ _ _ _ _ _ _ x.pk _ (by first | assumption | exact Own.rd ‹_› | exact Rd.oC ‹_› hB | exact Own.rd (Own.oC ‹_› hB)) (by first | assumption | exact Own.rd ‹_› | exact Rd.oC ‹_› hB | exact Own.rd (Own.oC ‹_› hB)) (by first | assumption | exact Own.rd ‹_› | exact Rd.oC ‹_› hB | exact Own.rd (Own.oC ‹_› hB)) (by first | assumption | exact Own.rd ‹_› | exact Rd.oC ‹_› hB | exact Own.rd (Own.oC ‹_› hB)) (by first | assumption | exact Own.rd ‹_› | exact Rd.oC ‹_› hB | exact Own.rd (Own.oC ‹_› hB)) (by first | assumption | exact Own.rd ‹_› | exact Rd.oC ‹_› hB | exact Own.rd (Own.oC ‹_› hB)) (by first | assumption | exact Own.rd ‹_› | exact Rd.oC ‹_› hB | exact Own.rd (Own.oC ‹_› hB)))) rfl ?_)))))
     rintro _ w9 ⟨u2, rfl, o7, k9⟩
     have gl_o7 := hB.size
     replace hb1 := hb1.oC k9
     replace o1 := o1.oC k9
     replace hB := hB.trans k9
     rw [fj hok (by omega), cond_true] at o7
     replace o7 : OwnB w9 _ u2 (pkB x.pk) := o7
     refine ogm rfl rfl (a7 (bH (vs := [_, _]) rfl rfl) rfl (a7 (bH (vs := [_, _]) rfl rfl) rfl (oga rfl rfl (a6 (af [(4, _), (5, _)] ⟨rfl, rfl, trivial⟩ (bd rfl (a5 (aZ (ogm rfl rfl (ogm rfl rfl (ah (cf (m := 1) (ls := [pkB x.pk]) (xs := [.tmp 59]) (us := [_]) aJ am rfl rfl (bL (by first | exact Rd.nil _ _ | exact (by first | assumption | exact Own.rd ‹_› | exact Rd.oC ‹_› hB | exact Own.rd (Own.oC ‹_› hB))) (bb _)) rfl rfl) rfl ?_)))))))))))
     rintro v6 w10 ⟨sl2, k10⟩
     replace hb1 := hb1.oC k10
     replace o1 := o1.oC k10
     replace o7 := o7.oC k10
     replace hB := hB.trans k10
     have q1 := jZ (fj hok (by omega))
     obtain ⟨e1, m1⟩ := hP (a := pkB x.pk) (by omega)
     refine ah (ab (vs := [_]) rfl (db _ [pkB x.pk] _ _ ‹_› (.inr (by simp)))) rfl ?_
     rintro v7 w11 ⟨o9, k11⟩
     have gl_o9 := hB.size
     replace hb1 := hb1.oC k11
     replace o1 := o1.oC k11
     replace o7 := o7.oC k11
     replace sl2 := sl2.oC k11
     replace hB := hB.trans k11
     have lt_o10 := hb1.lt
     refine ah (bW aA cT rfl o1 rfl (show RdB _ _ _ from o9.rd) (by first | omega | (simp only [List.length_append] at *; omega)) (by omega)) rfl ?_
     rintro v8 w12 ⟨o10, k12, lb4, _⟩
     replace hB := hB.new k12 (fun x hx => .inl (Nat.le_trans ge_b1 (Nat.le_of_lt (o1.blk x hx).1)))
     replace hb1 := hb1.keep k12 (fun hm => absurd (o1.blk _ hm).1 (Nat.lt_irrefl _))
     refine oga rfl rfl (oga rfl rfl (a6 (bO hfin Try.results7 rfl rfl ?_)))
     have hh := o10
     exact ⟨_, by rw [hok]; rfl, by rw [hok]; exact (show OwnB _ _ _ (prB x) from by have e : [0, byteAt x.kind 0] ++ vecsB [pkB x.pk] = prB x := (by unfold prB prX; rw [e1, if_pos (by omega)]); unfold OwnB; rw [← e]; simp only [List.length_append] at hh ⊢; exact hh).lo (by omega), hB⟩
    ·
     refine aj (a5 (a5 (aZ (a7 (bE rfl rfl) rfl (oga rfl rfl (a6 (bF rfl (fun hc5 => ?_) (fun hc5 => ?_))))))))
     ·
      refine bd rfl (a5 (aZ (a7 (ak aH rfl bk (by decide) rfl) rfl (a7 (au (cs' := [_, _, _, _, _, _]) dt bk rfl hb1 rfl rfl) rfl (ah (ab (vs := [_]) rfl (fK _ _ _ _ _ x.lf _ (by first | assumption | exact Own.rd ‹_› | exact Rd.oC ‹_› hB | exact Own.rd (Own.oC ‹_› hB)) (by first | assumption | exact Own.rd ‹_› | exact Rd.oC ‹_› hB | exact Own.rd (Own.oC ‹_› hB)) (by first | assumption | exact Own.rd ‹_› | exact Rd.oC ‹_› hB | exact Own.rd (Own.oC ‹_› hB)) (by first | assumption | exact Own.rd ‹_› | exact Rd.oC ‹_› hB | exact Own.rd (Own.oC ‹_› hB)) (by first | assumption | exact Own.rd ‹_› | exact Rd.oC ‹_› hB | exact Own.rd (Own.oC ‹_› hB)))) rfl ?_)))))
      rintro _ w13 ⟨u3, rfl, o11, k13⟩
      have gl_o11 := hB.size
      replace hb1 := hb1.oC k13
      replace o1 := o1.oC k13
      replace hB := hB.trans k13
      rw [(fi hok (by omega)).1, cond_true] at o11
      replace o11 : OwnB w13 _ u3 (leafB x.lf) := o11
      refine ogm rfl rfl (a7 (bH (vs := [_, _]) rfl rfl) rfl (a7 (bH (vs := [_, _]) rfl rfl) rfl (oga rfl rfl (a6 (af [(4, _), (5, _)] ⟨rfl, rfl, trivial⟩ (bd rfl (a5 (aZ (ogm rfl rfl (ogm rfl rfl (ah (cf (m := 1) (ls := [leafB x.lf]) (xs := [.tmp 59]) (us := [_]) aJ am rfl rfl (bL (by first | exact Rd.nil _ _ | exact (by first | assumption | exact Own.rd ‹_› | exact Rd.oC ‹_› hB | exact Own.rd (Own.oC ‹_› hB))) (bb _)) rfl rfl) rfl ?_)))))))))))
      rintro v9 w14 ⟨sl3, k14⟩
      replace hb1 := hb1.oC k14
      replace o1 := o1.oC k14
      replace o11 := o11.oC k14
      replace hB := hB.trans k14
      have q1 := df (fi hok (by omega)).1
      obtain ⟨e1, m1⟩ := hP (a := leafB x.lf) (by omega)
      refine ah (ab (vs := [_]) rfl (db _ [leafB x.lf] _ _ ‹_› (.inr (by simp)))) rfl ?_
      rintro v10 w15 ⟨o13, k15⟩
      have gl_o13 := hB.size
      replace hb1 := hb1.oC k15
      replace o1 := o1.oC k15
      replace o11 := o11.oC k15
      replace sl3 := sl3.oC k15
      replace hB := hB.trans k15
      have lt_o14 := hb1.lt
      refine ah (bW aA cT rfl o1 rfl (show RdB _ _ _ from o13.rd) (by first | omega | (simp only [List.length_append] at *; omega)) (by omega)) rfl ?_
      rintro v11 w16 ⟨o14, k16, lb5, _⟩
      replace hB := hB.new k16 (fun x hx => .inl (Nat.le_trans ge_b1 (Nat.le_of_lt (o1.blk x hx).1)))
      replace hb1 := hb1.keep k16 (fun hm => absurd (o1.blk _ hm).1 (Nat.lt_irrefl _))
      refine oga rfl rfl (oga rfl rfl (a6 (bO hfin Try.results7 rfl rfl ?_)))
      have hh := o14
      exact ⟨_, by rw [hok]; rfl, by rw [hok]; exact (show OwnB _ _ _ (prB x) from by have e : [0, byteAt x.kind 0] ++ vecsB [leafB x.lf] = prB x := (by unfold prB prX; rw [e1, if_neg (by omega), if_pos (by omega)]); unfold OwnB; rw [← e]; simp only [List.length_append] at hh ⊢; exact hh).lo (by omega), hB⟩
     ·
      refine aj (a5 (aZ (a7 (bE rfl rfl) rfl (oga rfl rfl (a6 (af [(1, _), (4, _), (5, _), (25, _)] ⟨rfl, rfl, rfl, rfl, trivial⟩ (bF rfl (fun hc6 => ?_) (fun hc6 => ?_))))))))
      ·
       refine bd rfl (aZ (a7 (ak aH rfl am (by decide) rfl) rfl (a7 (ae aw rfl hb1 rfl) rfl (oga rfl rfl (a6 (cG (bd rfl (a5 (aZ (ogm rfl rfl (ogm rfl rfl (ah (cf (m := 1) (ls := [x.enc]) (xs := [.tmp 59]) (us := [_]) aJ am rfl rfl (bL (by first | exact Rd.nil _ _ | exact (by first | assumption | exact Own.rd ‹_› | exact Rd.oC ‹_› hB | exact Own.rd (Own.oC ‹_› hB))) (bb _)) rfl rfl) rfl ?_))))))))))))
       rintro v12 w17 ⟨sl4, k17⟩
       replace hb1 := hb1.oC k17
       replace o1 := o1.oC k17
       replace hB := hB.trans k17
       have q1 := fh hok (by omega) (by omega) (by omega) (by omega)
       obtain ⟨e1, m1⟩ := hP (a := x.enc) (by omega)
       refine ah (ab (vs := [_]) rfl (db _ [x.enc] _ _ ‹_› (.inr (by simp)))) rfl ?_
       rintro v13 w18 ⟨o16, k18⟩
       have gl_o16 := hB.size
       replace hb1 := hb1.oC k18
       replace o1 := o1.oC k18
       replace sl4 := sl4.oC k18
       replace hB := hB.trans k18
       have lt_o17 := hb1.lt
       refine ah (bW aA cT rfl o1 rfl (show RdB _ _ _ from o16.rd) (by first | omega | (simp only [List.length_append] at *; omega)) (by omega)) rfl ?_
       rintro v14 w19 ⟨o17, k19, lb6, _⟩
       replace hB := hB.new k19 (fun x hx => .inl (Nat.le_trans ge_b1 (Nat.le_of_lt (o1.blk x hx).1)))
       refine oga rfl rfl (oga rfl rfl (a6 (af [(2, _), (3, _)] ⟨rfl, rfl, trivial⟩ (bO hfin Try.results7 rfl rfl ?_))))
       have hh := o17
       exact ⟨_, by rw [hok]; rfl, by rw [hok]; exact (show OwnB _ _ _ (prB x) from by have e : [0, byteAt x.kind 0] ++ vecsB [x.enc] = prB x := (by unfold prB prX; rw [e1, if_neg (by omega), if_neg (by omega), if_neg (by omega), if_neg (by omega)]); unfold OwnB; rw [← e]; simp only [List.length_append] at hh ⊢; exact hh).lo (by omega), hB⟩
      ·
       exfalso
       have := fh hok (by omega) (by omega) (by omega) (by omega)
       omega
theorem md (p : Nat) (rest : List UInt8) (e : Int) (w : World) (h : Rdr w p rest e) : Rets Try.prog 37 [.pointer (some ⟨p, 0, none⟩), .int .i64 2] w (fun v w' => v = .int .i64 (rNum 16 rest e 2).1 ∧ Rdr w' p (rNum 16 rest e 2).2.1 (rNum 16 rest e 2).2.2 ∧ Keep [p] w w') := by
  refine (dy p rest e 2 w h (by decide)).mono ?_
  rintro v w' ⟨r, hr, h1, h2, h3⟩
  rw [show bitsOf 2 = 16 from by decide] at hr; subst hr; exact ⟨h1, h2, h3⟩
theorem mc (p : Nat) (rest : List UInt8) (e : Int) (w : World) (h : Rdr w p rest e) : Rets Try.prog 37 [.pointer (some ⟨p, 0, none⟩), .int .i64 4] w (fun v w' => v = .int .i64 (rNum 32 rest e 4).1 ∧ Rdr w' p (rNum 32 rest e 4).2.1 (rNum 32 rest e 4).2.2 ∧ Keep [p] w w') := by
  refine (dy p rest e 4 w h (by decide)).mono ?_
  rintro v w' ⟨r, hr, h1, h2, h3⟩
  rw [show bitsOf 4 = 32 from by decide] at hr; subst hr; exact ⟨h1, h2, h3⟩
theorem ic (o : Bool) (b c : List UInt8) : (decide ((bif o then (0 : Int) else 1) ≠ 0) || decide (¬ (bif o then b else []) = c)) = !(o && decide (b = c)) := by
 cases o <;> simp
theorem n0 (v : Value) (c : List UInt8) (w : World) (hv : RdB w v c) (hc : c.length ≤ 140737488351232) : Rets Try.prog 9 [v] w (fun r w' => ∃ i e s n h g gg e2 s2 n2 h2 g2 y1 y2 y3, r = .tuple #[.agg [.int .i64 (kgR c).kind, i, e, s, n, .int .i64 (kgR c).pk.leaf.src, h, g, gg, e2, s2, n2, .int .i64 (kgR c).lf.src, h2, g2, .int .i64 (kgR c).ix, y1, y2, y3].toArray, .int .i64 (kgE c)] ∧ OwnB w' w.heap.size i (kgR c).pk.init ∧ OwnB w' w.heap.size e (kgR c).pk.leaf.enc ∧ OwnB w' w.heap.size s (kgR c).pk.leaf.sig ∧ OwnB w' w.heap.size n (kgR c).pk.leaf.name ∧ OwnB w' w.heap.size h (kgR c).pk.leaf.hash ∧ OwnB w' w.heap.size g (kgR c).pk.leaf.sg ∧ OwnB w' w.heap.size gg (kgR c).pk.sg ∧ OwnB w' w.heap.size e2 (kgR c).lf.enc ∧ OwnB w' w.heap.size s2 (kgR c).lf.sig ∧ OwnB w' w.heap.size n2 (kgR c).lf.name ∧ OwnB w' w.heap.size h2 (kgR c).lf.hash ∧ OwnB w' w.heap.size g2 (kgR c).lf.sg ∧ OwnB w' w.heap.size y1 (kgR c).psk ∧ OwnB w' w.heap.size y2 (kgR c).nonce ∧ OwnB w' w.heap.size y3 (kgR c).enc ∧ Keep [] w w') := by
 have hB : Keep [] w w := Keep.refl _ _
 have hlV : (kyV c).1.length ≤ 140737488351232 := by have : (kyV c).1.length ≤ 65536 := bU _ _; omega
 have hlW : (kyW c).1.length ≤ 140737488351232 := by have : (kyW c).1.length ≤ 65536 := bU _ _; omega
 obtain ⟨z1, z2, z3, z4⟩ := nY c
 have gm := j9 (kyV c).1; have lm := ja (kyV c).1
 refine ai Try.func9 rfl (by decide) Try.ntmps9 rfl (fun fin _ hfin => a5 (aZ (ah (bG bz) rfl ?_)))
 rintro _ w1 ⟨b1, rfl, eb1, hb1, k1, z1⟩
 have ge_b1 : w.heap.size ≤ b1 := by have := hB.size; omega
 replace hB := hB.trans k1
 clear eb1 z1
 refine oga rfl rfl (a6 (a5 (aZ (ogm rfl rfl ?_))))
 have zb1 := hb1.lt
 have hs8 := hB.size
 refine ah (ab (vs := [_]) rfl (dl _ c _ (hv.oC hB) (by omega))) rfl ?_
 rintro _ w2 ⟨p1, rfl, rr, k2⟩
 obtain ⟨hB, hb1⟩ := bX k2 hB hb1
 have gp1 := rr.1
 replace rr := rr.rdr
 have hp1 : b1 < p1 := by omega
 refine oga rfl rfl (a6 (a5 (aZ (ogm rfl rfl ?_))))
 have lv_km1 := rr.lt
 refine ah (ab (vs := [_, _]) rfl (md p1 c 0 _ rr)) rfl ?_
 rintro _ w3 ⟨rfl, rr, km1⟩
 have z_km1 := km1.size
 replace hb1 := hb1.keep km1 (fun hm => by have h9 := List.mem_singleton.1 hm; omega)
 replace hB := hB.new km1 (fun x hm => .inl (by have h9 := List.mem_singleton.1 hm; omega))
 have rr : Rdr w3 p1 (kyA c).2.1 (kyA c).2.2 := rr
 show OW _ _ _ _ _ _ ((11, .int .i64 (kyA c).1) :: _) _
 refine a7 (cA (idx := [0]) (xs := [.tmp 11]) (vs := [_]) (css := [[_]]) (out := [_, _, _, _, _, _, _, _, _, _, _, _, _, _, _, _, _, _, _]) lH bz rfl rfl ⟨rfl, trivial⟩ rfl rfl) rfl ?_
 have lr5 := rr.lt
 refine ah (bG bz) rfl ?_
 rintro _ w4 ⟨b2, rfl, eb2, hb2, k3, z2⟩
 have rlt5 : p1 < b2 := by omega
 have ebk := eb2
 have ge_b2 : w.heap.size ≤ b2 := by have := hB.size; omega
 have ne_b1_b2 : b1 ≠ b2 := by have := hb1.lt; omega
 replace hb1 := hb1.oC k3
 replace rr := rr.oC k3
 replace hB := hB.trans k3
 clear eb2 z2
 refine an (bK bz rfl rfl rfl (by simp only [List.forall_mem_cons]; refine ⟨rfl, rfl, rfl, rfl, rfl, rfl, rfl, rfl, rfl, rfl, rfl, rfl, rfl, rfl, rfl, rfl, rfl, rfl, rfl, fun v hv => by cases hv⟩) hb2 rfl) ?_
 rintro _ w5 ⟨hb3, k4, z3⟩
 replace hb1 := hb1.keep k4 (nm ne_b1_b2)
 replace rr := rr.keep k4 (fun x hx hm => (fun x (hx : x ≤ p1) => (show x ≠ b2 from by omega)) x hx (List.mem_singleton.1 hm))
 replace hB := hB.new k4 (nw ge_b2)
 clear z3
 replace hb3 : Bk w5 b2 _ [.int .i64 (kyA c).1, .slice none 0 0, .slice none 0 0, .slice none 0 0, .slice none 0 0, .int .i64 0, .slice none 0 0, .slice none 0 0, .slice none 0 0, .slice none 0 0, .slice none 0 0, .slice none 0 0, .int .i64 0, .slice none 0 0, .slice none 0 0, .int .i64 0, .slice none 0 0, .slice none 0 0, .slice none 0 0] := hb3
 refine a6 (a5 (a5 (aZ (a7 (ak aH rfl bh (by decide) rfl) rfl (a7 (ae cY rfl hb3 rfl) rfl (a6 (bA (a5 (aZ (a7 (bE rfl rfl) rfl (oga rfl rfl (a6 (bF rfl (fun hc1 => ?_) (fun hc1 => ?_))))))))))))))
 ·
  refine aZ (ogm rfl rfl ?_)
  have lv_km2 := rr.lt
  have gw_o1 := hB.size
  have lb_o1_b1 := hb1.lt
  have lb_o1_b2 := hb3.lt
  refine ah (ab (vs := [_]) rfl (bQ p1 (kyA c).2.1 (kyA c).2.2 _ rr (by omega))) rfl ?_
  rintro v1 w6 ⟨_, rfl, o1, rr, km2⟩
  have gl_o1 := hB.size
  have sb_b1_o1 := fun x hx => (show x ≠ b1 from by have h1 := (o1.blk x hx).1; have h2 := hb1.lt; omega)
  have sb_b2_o1 := fun x hx => (show x ≠ b2 from by have h1 := (o1.blk x hx).1; have h2 := hb3.lt; omega)
  have z_km2 := km2.size
  replace hb1 := hb1.keep km2 (fun hm => by have h9 := List.mem_singleton.1 hm; omega)
  replace hb3 := hb3.keep km2 (fun hm => by have h9 := List.mem_singleton.1 hm; omega)
  replace hB := hB.new km2 (fun x hm => .inl (by have h9 := List.mem_singleton.1 hm; omega))
  have rr : Rdr w6 p1 (kyV c).2.1 (kyV c).2.2 := rr
  replace o1 : OwnB w6 w5.heap.size v1 (kyV c).1 := o1
  have lc_b1 := hb1.lt
  have lc_b2 := hb3.lt
  have gwQ := hB.size
  have lcr := rr.lt
  refine ah (ab (vs := [_]) rfl (ml _ (kyV c).1 _ o1.rd hlV)) rfl ?_
  rintro _ w7 ⟨q0, q1, q2, q3, q4, q5, q6, rfl, o70, o71, o72, o73, o74, o75, o76, k5⟩
  replace hb1 := hb1.oC k5
  replace rr := rr.oC k5
  replace hb3 := hb3.oC k5
  replace o1 := o1.oC k5
  replace hB := hB.trans k5
  refine ogm rfl rfl (a7 (bH (vs := [_, _]) rfl rfl) rfl (a7 (bH (vs := [_, _]) rfl rfl) rfl (a7 (ak aH rfl cg (by decide) rfl) rfl (an (bK cg rfl rfl rfl (by simp only [List.forall_mem_cons]; exact ⟨(Own.rd o70).one, (Own.rd o71).one, (Own.rd o72).one, (Own.rd o73).one, rfl, (Own.rd o74).one, (Own.rd o75).one, (Own.rd o76).one, fun v hv => by cases hv⟩) hb3 rfl) ?_))))
  rintro _ w8 ⟨hb4, k6, z4⟩
  replace hb1 := hb1.keep k6 (nm ne_b1_b2)
  replace rr := rr.keep k6 (fun x hx hm => (fun x (hx : x ≤ p1) => (show x ≠ b2 from by omega)) x hx (List.mem_singleton.1 hm))
  replace o1 := o1.keep k6 (fun x hx hm => sb_b2_o1 x hx (List.mem_singleton.1 hm))
  replace o70 := o70.keep k6 (fun x hx hm => (fun x hx => (show x ≠ b2 from by have := (o70.blk x hx).1; omega)) x hx (List.mem_singleton.1 hm))
  replace o71 := o71.keep k6 (fun x hx hm => (fun x hx => (show x ≠ b2 from by have := (o71.blk x hx).1; omega)) x hx (List.mem_singleton.1 hm))
  replace o72 := o72.keep k6 (fun x hx hm => (fun x hx => (show x ≠ b2 from by have := (o72.blk x hx).1; omega)) x hx (List.mem_singleton.1 hm))
  replace o73 := o73.keep k6 (fun x hx hm => (fun x hx => (show x ≠ b2 from by have := (o73.blk x hx).1; omega)) x hx (List.mem_singleton.1 hm))
  replace o74 := o74.keep k6 (fun x hx hm => (fun x hx => (show x ≠ b2 from by have := (o74.blk x hx).1; omega)) x hx (List.mem_singleton.1 hm))
  replace o75 := o75.keep k6 (fun x hx hm => (fun x hx => (show x ≠ b2 from by have := (o75.blk x hx).1; omega)) x hx (List.mem_singleton.1 hm))
  replace o76 := o76.keep k6 (fun x hx hm => (fun x hx => (show x ≠ b2 from by have := (o76.blk x hx).1; omega)) x hx (List.mem_singleton.1 hm))
  replace hB := hB.new k6 (nw ge_b2)
  clear z4
  replace hb4 : Bk w8 b2 _ [.int .i64 (kyA c).1, q0, q1, q2, q3, .int .i64 (gpR (kyV c).1).leaf.src, q4, q5, q6, .slice none 0 0, .slice none 0 0, .slice none 0 0, .int .i64 0, .slice none 0 0, .slice none 0 0, .int .i64 0, .slice none 0 0, .slice none 0 0, .slice none 0 0] := hb4
  refine a6 (af [(0, _), (2, _), (5, _)] ⟨rfl, rfl, rfl, trivial⟩ (cG (a5 (a5 (aZ (a7 (au (cs' := [_, _, _, _, _, _, _, _, _, _, _, _, _, _, _, _, _, _, _]) dY bz rfl hb4 rfl rfl) rfl (ah (ab (vs := [_]) rfl (eQ _ _ _ _ _ _ _ _ _ _ _ _ _ _ _ ⟨(kyA c).1, gpR (kyV c).1, bf, 0, [], [], []⟩ _ o70.rd o71.rd o72.rd o73.rd o74.rd o75.rd o76.rd (show RdB _ _ [] from Rd.nil _ _) (show RdB _ _ [] from Rd.nil _ _) (show RdB _ _ [] from Rd.nil _ _) (show RdB _ _ [] from Rd.nil _ _) (show RdB _ _ [] from Rd.nil _ _) (show RdB _ _ [] from Rd.nil _ _) (show RdB _ _ [] from Rd.nil _ _) (show RdB _ _ [] from Rd.nil _ _) (Nat.le_trans gm.1 (by decide)) (Nat.le_trans gm.2.1 (by decide)) (Nat.le_trans gm.2.2.1 (by decide)) (Nat.le_trans gm.2.2.2.1 (by decide)) (Nat.le_trans gm.2.2.2.2.1 (by decide)) (Nat.le_trans gm.2.2.2.2.2.1 (by decide)) (Nat.le_trans gm.2.2.2.2.2.2 (by decide)) (Nat.zero_le _) (Nat.zero_le _) (Nat.zero_le _) (Nat.zero_le _) (Nat.zero_le _) (Nat.zero_le _) (Nat.zero_le _) (Nat.zero_le _))) rfl ?_)))))))
  rintro _ w9 ⟨u1, rfl, o2, k7⟩
  have gl_o2 := hB.size
  have sb_b1_o2 := fun x hx => (show x ≠ b1 from by have h1 := (o2.blk x hx).1; have h2 := hb1.lt; omega)
  replace hb1 := hb1.oC k7
  replace o1 := o1.oC k7
  replace o70 := o70.oC k7
  replace o71 := o71.oC k7
  replace o72 := o72.oC k7
  replace o73 := o73.oC k7
  replace o74 := o74.oC k7
  replace o75 := o75.oC k7
  replace o76 := o76.oC k7
  obtain ⟨hB, hb4⟩ := bX k7 hB hb4
  refine ogm rfl rfl (a7 (bH (vs := [_, _]) rfl rfl) rfl (a7 (bH (vs := [_, _]) rfl rfl) rfl (oga rfl rfl (oga rfl rfl (a6 (a5 (aZ (ogm rfl rfl (a7 (bn rfl rfl) rfl (ogm rfl rfl (aq 56 false rfl (fun c1 hgc1 => a9 [(6, _)] (ad rfl rfl rfl hgc1) ⟨bB rfl, trivial⟩ (fun hw1 => bC rfl) rfl (a9 [(0, _)] (ad rfl rfl rfl hgc1) ⟨bB rfl, trivial⟩ (fun hw2 => bC rfl) rfl (dk [(57, _), (58, _)] (ad rfl rfl rfl hgc1) ⟨ag rfl, ag rfl, trivial⟩ (fun hw3 => ab (vs := [_, _]) rfl (dm _ _ (bif prOk ⟨(kyA c).1, gpR (kyV c).1, bf, 0, [], [], []⟩ then prB ⟨(kyA c).1, gpR (kyV c).1, bf, 0, [], [], []⟩ else []) c _ o2.rd (hv.oC hB))) rfl (a9 [(59, _)] (ad rfl rfl rfl hgc1) ⟨ag rfl, trivial⟩ (fun hw4 => eu rfl) rfl (a7 (bP rfl rfl hgc1) rfl ?_))))))))))))))))
  refine a6 (af [(2, _), (5, _), (61, _)] ⟨rfl, rfl, rfl, trivial⟩ (bD rfl (fun hc2 => ?_) (fun hc2 => ?_)))
  ·
   have hd1 := hc2
   try (simp only [Bool.and_eq_true, Bool.or_eq_true, decide_eq_true_eq, Bool.and_eq_false_iff, Bool.or_eq_false_iff, decide_eq_false_iff_not, Bool.not_eq_true', Bool.not_eq_false', Bool.not_eq_true, Bool.not_eq_false, ne_eq, Decidable.not_not, decide_true, decide_false, Bool.true_and, Bool.false_and, Bool.or_false, Bool.false_or, not_true_eq_false, false_or, or_false, true_and, and_true, not_false_eq_true, reduceCtorEq] at hd1)
   refine a5 (aZ (a7 (cA (idx := []) (xs := []) (vs := []) (css := []) (out := [_, _, _, _, _, _, _, _, _, _, _, _, _, _, _, _, _, _, _]) lH bz rfl rfl trivial rfl rfl) rfl (an (bK bz rfl rfl rfl (by simp only [List.forall_mem_cons]; refine ⟨rfl, rfl, rfl, rfl, rfl, rfl, rfl, rfl, rfl, rfl, rfl, rfl, rfl, rfl, rfl, rfl, rfl, rfl, rfl, fun v hv => by cases hv⟩) hb1 rfl) ?_)))
   rintro _ w10 ⟨hb5, k8, z5⟩
   replace o1 := o1.keep k8 (fun x hx hm => sb_b1_o1 x hx (List.mem_singleton.1 hm))
   replace o70 := o70.keep k8 (fun x hx hm => (fun x hx => (show x ≠ b1 from by have := (o70.blk x hx).1; omega)) x hx (List.mem_singleton.1 hm))
   replace o71 := o71.keep k8 (fun x hx hm => (fun x hx => (show x ≠ b1 from by have := (o71.blk x hx).1; omega)) x hx (List.mem_singleton.1 hm))
   replace o72 := o72.keep k8 (fun x hx hm => (fun x hx => (show x ≠ b1 from by have := (o72.blk x hx).1; omega)) x hx (List.mem_singleton.1 hm))
   replace o73 := o73.keep k8 (fun x hx hm => (fun x hx => (show x ≠ b1 from by have := (o73.blk x hx).1; omega)) x hx (List.mem_singleton.1 hm))
   replace o74 := o74.keep k8 (fun x hx hm => (fun x hx => (show x ≠ b1 from by have := (o74.blk x hx).1; omega)) x hx (List.mem_singleton.1 hm))
   replace o75 := o75.keep k8 (fun x hx hm => (fun x hx => (show x ≠ b1 from by have := (o75.blk x hx).1; omega)) x hx (List.mem_singleton.1 hm))
   replace o76 := o76.keep k8 (fun x hx hm => (fun x hx => (show x ≠ b1 from by have := (o76.blk x hx).1; omega)) x hx (List.mem_singleton.1 hm))
   replace hb4 := hb4.keep k8 (nm (Ne.symm ne_b1_b2))
   replace o2 := o2.keep k8 (fun x hx hm => sb_b1_o2 x hx (List.mem_singleton.1 hm))
   replace hB := hB.new k8 (nw ge_b1)
   clear z5
   replace hb5 : Bk w10 b1 _ [.int .i64 0, .slice none 0 0, .slice none 0 0, .slice none 0 0, .slice none 0 0, .int .i64 0, .slice none 0 0, .slice none 0 0, .slice none 0 0, .slice none 0 0, .slice none 0 0, .slice none 0 0, .int .i64 0, .slice none 0 0, .slice none 0 0, .int .i64 0, .slice none 0 0, .slice none 0 0, .slice none 0 0] := hb5
   refine oga rfl rfl (a6 (bJ hfin Try.results9 rfl (ar dY bz hb5 rfl) rfl ?_))
   have hk : (kyA c).1 = 1 := by assumption
   obtain ⟨e1, e2, e3⟩ := lR hk
   have eX : kpP c = ⟨(kyA c).1, gpR (kyV c).1, bf, 0, [], [], []⟩ := by
    unfold kpP; simp only; rw [if_pos (by omega)]; rw [hk]; exact e1
   obtain ⟨hd1, hd2⟩ := dX c
   have hok : kpOk c = false := by
    have hh := ic (prOk ⟨(kyA c).1, gpR (kyV c).1, bf, 0, [], [], []⟩) (prB ⟨(kyA c).1, gpR (kyV c).1, bf, 0, [], [], []⟩) c
    rw [show (decide ((bif prOk ⟨(kyA c).1, gpR (kyV c).1, bf, 0, [], [], []⟩ then (0 : Int) else 1) ≠ 0) || decide (¬ (bif prOk ⟨(kyA c).1, gpR (kyV c).1, bf, 0, [], [], []⟩ then prB ⟨(kyA c).1, gpR (kyV c).1, bf, 0, [], [], []⟩ else []) = c)) = true from by assumption] at hh
    unfold kpOk; rw [eX]; cases hq : (prOk ⟨(kyA c).1, gpR (kyV c).1, bf, 0, [], [], []⟩ && decide (prB ⟨(kyA c).1, gpR (kyV c).1, bf, 0, [], [], []⟩ = c)) <;> rw [hq] at hh <;> first | rfl | (cases hh; done)
   unfold kgR kgE; rw [hd1, hok]
   exact ⟨_, _, _, _, _, _, _, _, _, _, _, _, _, _, _, rfl, a8 _ _ _ _, a8 _ _ _ _, a8 _ _ _ _, a8 _ _ _ _, a8 _ _ _ _, a8 _ _ _ _, a8 _ _ _ _, a8 _ _ _ _, a8 _ _ _ _, a8 _ _ _ _, a8 _ _ _ _, a8 _ _ _ _, a8 _ _ _ _, a8 _ _ _ _, a8 _ _ _ _, hB⟩
  ·
   have hd2 := hc2
   try (simp only [Bool.and_eq_true, Bool.or_eq_true, decide_eq_true_eq, Bool.and_eq_false_iff, Bool.or_eq_false_iff, decide_eq_false_iff_not, Bool.not_eq_true', Bool.not_eq_false', Bool.not_eq_true, Bool.not_eq_false, ne_eq, Decidable.not_not, decide_true, decide_false, Bool.true_and, Bool.false_and, Bool.or_false, Bool.false_or, not_true_eq_false, false_or, or_false, true_and, and_true, not_false_eq_true, reduceCtorEq] at hd2)
   refine aj (a5 (aZ (a7 (au (cs' := [_, _, _, _, _, _, _, _, _, _, _, _, _, _, _, _, _, _, _]) dY bz rfl hb4 rfl rfl) rfl (an (bK bz rfl rfl rfl (by simp only [List.forall_mem_cons]; exact ⟨rfl, (Own.rd o70).one, (Own.rd o71).one, (Own.rd o72).one, (Own.rd o73).one, rfl, (Own.rd o74).one, (Own.rd o75).one, (Own.rd o76).one, rfl, rfl, rfl, rfl, rfl, rfl, rfl, rfl, rfl, rfl, fun v hv => by cases hv⟩) hb1 rfl) ?_))))
   rintro _ w11 ⟨hb6, k9, z6⟩
   replace o1 := o1.keep k9 (fun x hx hm => sb_b1_o1 x hx (List.mem_singleton.1 hm))
   replace o70 := o70.keep k9 (fun x hx hm => (fun x hx => (show x ≠ b1 from by have := (o70.blk x hx).1; omega)) x hx (List.mem_singleton.1 hm))
   replace o71 := o71.keep k9 (fun x hx hm => (fun x hx => (show x ≠ b1 from by have := (o71.blk x hx).1; omega)) x hx (List.mem_singleton.1 hm))
   replace o72 := o72.keep k9 (fun x hx hm => (fun x hx => (show x ≠ b1 from by have := (o72.blk x hx).1; omega)) x hx (List.mem_singleton.1 hm))
   replace o73 := o73.keep k9 (fun x hx hm => (fun x hx => (show x ≠ b1 from by have := (o73.blk x hx).1; omega)) x hx (List.mem_singleton.1 hm))
   replace o74 := o74.keep k9 (fun x hx hm => (fun x hx => (show x ≠ b1 from by have := (o74.blk x hx).1; omega)) x hx (List.mem_singleton.1 hm))
   replace o75 := o75.keep k9 (fun x hx hm => (fun x hx => (show x ≠ b1 from by have := (o75.blk x hx).1; omega)) x hx (List.mem_singleton.1 hm))
   replace o76 := o76.keep k9 (fun x hx hm => (fun x hx => (show x ≠ b1 from by have := (o76.blk x hx).1; omega)) x hx (List.mem_singleton.1 hm))
   replace hb4 := hb4.keep k9 (nm (Ne.symm ne_b1_b2))
   replace o2 := o2.keep k9 (fun x hx hm => sb_b1_o2 x hx (List.mem_singleton.1 hm))
   replace hB := hB.new k9 (nw ge_b1)
   clear z6
   replace hb6 : Bk w11 b1 _ [.int .i64 (kyA c).1, q0, q1, q2, q3, .int .i64 (gpR (kyV c).1).leaf.src, q4, q5, q6, .slice none 0 0, .slice none 0 0, .slice none 0 0, .int .i64 0, .slice none 0 0, .slice none 0 0, .int .i64 0, .slice none 0 0, .slice none 0 0, .slice none 0 0] := hb6
   refine oga rfl rfl (a6 (bJ hfin Try.results9 rfl (ar dY bz hb6 rfl) rfl ?_))
   have hk : (kyA c).1 = 1 := by assumption
   obtain ⟨e1, e2, e3⟩ := lR hk
   have eX : kpP c = ⟨(kyA c).1, gpR (kyV c).1, bf, 0, [], [], []⟩ := by
    unfold kpP; simp only; rw [if_pos (by omega)]; rw [hk]; exact e1
   obtain ⟨hd1, hd2⟩ := dX c
   have hok : kpOk c = true := by
    have hh := ic (prOk ⟨(kyA c).1, gpR (kyV c).1, bf, 0, [], [], []⟩) (prB ⟨(kyA c).1, gpR (kyV c).1, bf, 0, [], [], []⟩) c
    rw [show (decide ((bif prOk ⟨(kyA c).1, gpR (kyV c).1, bf, 0, [], [], []⟩ then (0 : Int) else 1) ≠ 0) || decide (¬ (bif prOk ⟨(kyA c).1, gpR (kyV c).1, bf, 0, [], [], []⟩ then prB ⟨(kyA c).1, gpR (kyV c).1, bf, 0, [], [], []⟩ else []) = c)) = false from by assumption] at hh
    unfold kpOk; rw [eX]; cases hq : (prOk ⟨(kyA c).1, gpR (kyV c).1, bf, 0, [], [], []⟩ && decide (prB ⟨(kyA c).1, gpR (kyV c).1, bf, 0, [], [], []⟩ = c)) <;> rw [hq] at hh <;> first | rfl | (cases hh; done)
   rw [show kgR c = ⟨(kyA c).1, gpR (kyV c).1, bf, 0, [], [], []⟩ from by unfold kgR; rw [hd1, hok, cond_true, ← hd2 hok]; exact eX, show kgE c = 0 from by unfold kgE; rw [hd1, hok]; rfl]
   exact ⟨_, _, _, _, _, _, _, _, _, _, _, _, _, _, _, rfl, o70.lo gwQ, o71.lo gwQ, o72.lo gwQ, o73.lo gwQ, o74.lo gwQ, o75.lo gwQ, o76.lo gwQ, a8 _ _ _ _, a8 _ _ _ _, a8 _ _ _ _, a8 _ _ _ _, a8 _ _ _ _, a8 _ _ _ _, a8 _ _ _ _, a8 _ _ _ _, hB⟩
 ·
  refine a5 (aZ (a7 (bE rfl rfl) rfl (oga rfl rfl (a6 (af [(0, _), (2, _), (4, _), (5, _), (14, _), (27, _)] ⟨rfl, rfl, rfl, rfl, rfl, rfl, trivial⟩ (bF rfl (fun hc3 => ?_) (fun hc3 => ?_)))))))
  ·
   refine aZ (ogm rfl rfl ?_)
   have lv_km3 := rr.lt
   have gw_o3 := hB.size
   have lb_o3_b1 := hb1.lt
   have lb_o3_b2 := hb3.lt
   refine ah (ab (vs := [_]) rfl (bQ p1 (kyA c).2.1 (kyA c).2.2 _ rr (by omega))) rfl ?_
   rintro v2 w12 ⟨_, rfl, o3, rr, km3⟩
   have gl_o3 := hB.size
   have sb_b1_o3 := fun x hx => (show x ≠ b1 from by have h1 := (o3.blk x hx).1; have h2 := hb1.lt; omega)
   have sb_b2_o3 := fun x hx => (show x ≠ b2 from by have h1 := (o3.blk x hx).1; have h2 := hb3.lt; omega)
   have z_km3 := km3.size
   replace hb1 := hb1.keep km3 (fun hm => by have h9 := List.mem_singleton.1 hm; omega)
   replace hb3 := hb3.keep km3 (fun hm => by have h9 := List.mem_singleton.1 hm; omega)
   replace hB := hB.new km3 (fun x hm => .inl (by have h9 := List.mem_singleton.1 hm; omega))
   have rr : Rdr w12 p1 (kyV c).2.1 (kyV c).2.2 := rr
   replace o3 : OwnB w12 w5.heap.size v2 (kyV c).1 := o3
   have lc_b1 := hb1.lt
   have lc_b2 := hb3.lt
   have gwQ := hB.size
   have lcr := rr.lt
   refine ah (ab (vs := [_]) rfl (kS _ (kyV c).1 _ o3.rd hlV)) rfl ?_
   rintro _ w13 ⟨r0, r1, r2, r3, r4, rfl, o70, o71, o72, o73, o74, k10⟩
   replace hb1 := hb1.oC k10
   replace rr := rr.oC k10
   replace hb3 := hb3.oC k10
   replace o3 := o3.oC k10
   replace hB := hB.trans k10
   refine ogm rfl rfl (a7 (bH (vs := [_, _]) rfl rfl) rfl (a7 (bH (vs := [_, _]) rfl rfl) rfl (a7 (ak aH rfl bk (by decide) rfl) rfl (an (bK bk rfl rfl rfl (by simp only [List.forall_mem_cons]; exact ⟨(Own.rd o70).one, (Own.rd o71).one, (Own.rd o72).one, rfl, (Own.rd o73).one, (Own.rd o74).one, fun v hv => by cases hv⟩) hb3 rfl) ?_))))
   rintro _ w14 ⟨hb7, k11, z7⟩
   replace hb1 := hb1.keep k11 (nm ne_b1_b2)
   replace rr := rr.keep k11 (fun x hx hm => (fun x (hx : x ≤ p1) => (show x ≠ b2 from by omega)) x hx (List.mem_singleton.1 hm))
   replace o3 := o3.keep k11 (fun x hx hm => sb_b2_o3 x hx (List.mem_singleton.1 hm))
   replace o70 := o70.keep k11 (fun x hx hm => (fun x hx => (show x ≠ b2 from by have := (o70.blk x hx).1; omega)) x hx (List.mem_singleton.1 hm))
   replace o71 := o71.keep k11 (fun x hx hm => (fun x hx => (show x ≠ b2 from by have := (o71.blk x hx).1; omega)) x hx (List.mem_singleton.1 hm))
   replace o72 := o72.keep k11 (fun x hx hm => (fun x hx => (show x ≠ b2 from by have := (o72.blk x hx).1; omega)) x hx (List.mem_singleton.1 hm))
   replace o73 := o73.keep k11 (fun x hx hm => (fun x hx => (show x ≠ b2 from by have := (o73.blk x hx).1; omega)) x hx (List.mem_singleton.1 hm))
   replace o74 := o74.keep k11 (fun x hx hm => (fun x hx => (show x ≠ b2 from by have := (o74.blk x hx).1; omega)) x hx (List.mem_singleton.1 hm))
   replace hB := hB.new k11 (nw ge_b2)
   clear z7
   replace hb7 : Bk w14 b2 _ [.int .i64 (kyA c).1, .slice none 0 0, .slice none 0 0, .slice none 0 0, .slice none 0 0, .int .i64 0, .slice none 0 0, .slice none 0 0, .slice none 0 0, r0, r1, r2, .int .i64 (glR (kyV c).1).src, r3, r4, .int .i64 0, .slice none 0 0, .slice none 0 0, .slice none 0 0] := hb7
   refine a6 (af [(0, _), (2, _), (5, _)] ⟨rfl, rfl, rfl, trivial⟩ (cG (a5 (a5 (aZ (a7 (au (cs' := [_, _, _, _, _, _, _, _, _, _, _, _, _, _, _, _, _, _, _]) dY bz rfl hb7 rfl rfl) rfl (ah (ab (vs := [_]) rfl (eQ _ _ _ _ _ _ _ _ _ _ _ _ _ _ _ ⟨(kyA c).1, bg, glR (kyV c).1, 0, [], [], []⟩ _ (show RdB _ _ [] from Rd.nil _ _) (show RdB _ _ [] from Rd.nil _ _) (show RdB _ _ [] from Rd.nil _ _) (show RdB _ _ [] from Rd.nil _ _) (show RdB _ _ [] from Rd.nil _ _) (show RdB _ _ [] from Rd.nil _ _) (show RdB _ _ [] from Rd.nil _ _) o70.rd o71.rd o72.rd o73.rd o74.rd (show RdB _ _ [] from Rd.nil _ _) (show RdB _ _ [] from Rd.nil _ _) (show RdB _ _ [] from Rd.nil _ _) (Nat.zero_le _) (Nat.zero_le _) (Nat.zero_le _) (Nat.zero_le _) (Nat.zero_le _) (Nat.zero_le _) (Nat.zero_le _) (Nat.le_trans lm.1 (by decide)) (Nat.le_trans lm.2.1 (by decide)) (Nat.le_trans lm.2.2.1 (by decide)) (Nat.le_trans lm.2.2.2.1 (by decide)) (Nat.le_trans lm.2.2.2.2 (by decide)) (Nat.zero_le _) (Nat.zero_le _) (Nat.zero_le _))) rfl ?_)))))))
   rintro _ w15 ⟨u2, rfl, o4, k12⟩
   have gl_o4 := hB.size
   have sb_b1_o4 := fun x hx => (show x ≠ b1 from by have h1 := (o4.blk x hx).1; have h2 := hb1.lt; omega)
   replace hb1 := hb1.oC k12
   replace o3 := o3.oC k12
   replace o70 := o70.oC k12
   replace o71 := o71.oC k12
   replace o72 := o72.oC k12
   replace o73 := o73.oC k12
   replace o74 := o74.oC k12
   obtain ⟨hB, hb7⟩ := bX k12 hB hb7
   refine ogm rfl rfl (a7 (bH (vs := [_, _]) rfl rfl) rfl (a7 (bH (vs := [_, _]) rfl rfl) rfl (oga rfl rfl (oga rfl rfl (a6 (a5 (aZ (ogm rfl rfl (a7 (bn rfl rfl) rfl (ogm rfl rfl (aq 56 false rfl (fun c2 hgc2 => a9 [(6, _)] (ad rfl rfl rfl hgc2) ⟨bB rfl, trivial⟩ (fun hw5 => bC rfl) rfl (a9 [(0, _)] (ad rfl rfl rfl hgc2) ⟨bB rfl, trivial⟩ (fun hw6 => bC rfl) rfl (dk [(57, _), (58, _)] (ad rfl rfl rfl hgc2) ⟨ag rfl, ag rfl, trivial⟩ (fun hw7 => ab (vs := [_, _]) rfl (dm _ _ (bif prOk ⟨(kyA c).1, bg, glR (kyV c).1, 0, [], [], []⟩ then prB ⟨(kyA c).1, bg, glR (kyV c).1, 0, [], [], []⟩ else []) c _ o4.rd (hv.oC hB))) rfl (a9 [(59, _)] (ad rfl rfl rfl hgc2) ⟨ag rfl, trivial⟩ (fun hw8 => eu rfl) rfl (a7 (bP rfl rfl hgc2) rfl ?_))))))))))))))))
   refine a6 (af [(2, _), (5, _), (61, _)] ⟨rfl, rfl, rfl, trivial⟩ (bD rfl (fun hc4 => ?_) (fun hc4 => ?_)))
   ·
    have hd3 := hc4
    try (simp only [Bool.and_eq_true, Bool.or_eq_true, decide_eq_true_eq, Bool.and_eq_false_iff, Bool.or_eq_false_iff, decide_eq_false_iff_not, Bool.not_eq_true', Bool.not_eq_false', Bool.not_eq_true, Bool.not_eq_false, ne_eq, Decidable.not_not, decide_true, decide_false, Bool.true_and, Bool.false_and, Bool.or_false, Bool.false_or, not_true_eq_false, false_or, or_false, true_and, and_true, not_false_eq_true, reduceCtorEq] at hd3)
    refine a5 (aZ (a7 (cA (idx := []) (xs := []) (vs := []) (css := []) (out := [_, _, _, _, _, _, _, _, _, _, _, _, _, _, _, _, _, _, _]) lH bz rfl rfl trivial rfl rfl) rfl (an (bK bz rfl rfl rfl (by simp only [List.forall_mem_cons]; refine ⟨rfl, rfl, rfl, rfl, rfl, rfl, rfl, rfl, rfl, rfl, rfl, rfl, rfl, rfl, rfl, rfl, rfl, rfl, rfl, fun v hv => by cases hv⟩) hb1 rfl) ?_)))
    rintro _ w16 ⟨hb8, k13, z8⟩
    replace o3 := o3.keep k13 (fun x hx hm => sb_b1_o3 x hx (List.mem_singleton.1 hm))
    replace o70 := o70.keep k13 (fun x hx hm => (fun x hx => (show x ≠ b1 from by have := (o70.blk x hx).1; omega)) x hx (List.mem_singleton.1 hm))
    replace o71 := o71.keep k13 (fun x hx hm => (fun x hx => (show x ≠ b1 from by have := (o71.blk x hx).1; omega)) x hx (List.mem_singleton.1 hm))
    replace o72 := o72.keep k13 (fun x hx hm => (fun x hx => (show x ≠ b1 from by have := (o72.blk x hx).1; omega)) x hx (List.mem_singleton.1 hm))
    replace o73 := o73.keep k13 (fun x hx hm => (fun x hx => (show x ≠ b1 from by have := (o73.blk x hx).1; omega)) x hx (List.mem_singleton.1 hm))
    replace o74 := o74.keep k13 (fun x hx hm => (fun x hx => (show x ≠ b1 from by have := (o74.blk x hx).1; omega)) x hx (List.mem_singleton.1 hm))
    replace hb7 := hb7.keep k13 (nm (Ne.symm ne_b1_b2))
    replace o4 := o4.keep k13 (fun x hx hm => sb_b1_o4 x hx (List.mem_singleton.1 hm))
    replace hB := hB.new k13 (nw ge_b1)
    clear z8
    replace hb8 : Bk w16 b1 _ [.int .i64 0, .slice none 0 0, .slice none 0 0, .slice none 0 0, .slice none 0 0, .int .i64 0, .slice none 0 0, .slice none 0 0, .slice none 0 0, .slice none 0 0, .slice none 0 0, .slice none 0 0, .int .i64 0, .slice none 0 0, .slice none 0 0, .int .i64 0, .slice none 0 0, .slice none 0 0, .slice none 0 0] := hb8
    refine oga rfl rfl (a6 (bJ hfin Try.results9 rfl (ar dY bz hb8 rfl) rfl ?_))
    have hk : (kyA c).1 = 2 := by assumption
    obtain ⟨e1, e2, e3⟩ := lQ hk
    have eX : kpP c = ⟨(kyA c).1, bg, glR (kyV c).1, 0, [], [], []⟩ := by
     unfold kpP; simp only; rw [if_pos (by omega)]; rw [hk]; exact e1
    obtain ⟨hd1, hd2⟩ := dX c
    have hok : kpOk c = false := by
     have hh := ic (prOk ⟨(kyA c).1, bg, glR (kyV c).1, 0, [], [], []⟩) (prB ⟨(kyA c).1, bg, glR (kyV c).1, 0, [], [], []⟩) c
     rw [show (decide ((bif prOk ⟨(kyA c).1, bg, glR (kyV c).1, 0, [], [], []⟩ then (0 : Int) else 1) ≠ 0) || decide (¬ (bif prOk ⟨(kyA c).1, bg, glR (kyV c).1, 0, [], [], []⟩ then prB ⟨(kyA c).1, bg, glR (kyV c).1, 0, [], [], []⟩ else []) = c)) = true from by assumption] at hh
     unfold kpOk; rw [eX]; cases hq : (prOk ⟨(kyA c).1, bg, glR (kyV c).1, 0, [], [], []⟩ && decide (prB ⟨(kyA c).1, bg, glR (kyV c).1, 0, [], [], []⟩ = c)) <;> rw [hq] at hh <;> first | rfl | (cases hh; done)
    unfold kgR kgE; rw [hd1, hok]
    exact ⟨_, _, _, _, _, _, _, _, _, _, _, _, _, _, _, rfl, a8 _ _ _ _, a8 _ _ _ _, a8 _ _ _ _, a8 _ _ _ _, a8 _ _ _ _, a8 _ _ _ _, a8 _ _ _ _, a8 _ _ _ _, a8 _ _ _ _, a8 _ _ _ _, a8 _ _ _ _, a8 _ _ _ _, a8 _ _ _ _, a8 _ _ _ _, a8 _ _ _ _, hB⟩
   ·
    have hd4 := hc4
    try (simp only [Bool.and_eq_true, Bool.or_eq_true, decide_eq_true_eq, Bool.and_eq_false_iff, Bool.or_eq_false_iff, decide_eq_false_iff_not, Bool.not_eq_true', Bool.not_eq_false', Bool.not_eq_true, Bool.not_eq_false, ne_eq, Decidable.not_not, decide_true, decide_false, Bool.true_and, Bool.false_and, Bool.or_false, Bool.false_or, not_true_eq_false, false_or, or_false, true_and, and_true, not_false_eq_true, reduceCtorEq] at hd4)
    refine aj (a5 (aZ (a7 (au (cs' := [_, _, _, _, _, _, _, _, _, _, _, _, _, _, _, _, _, _, _]) dY bz rfl hb7 rfl rfl) rfl (an (bK bz rfl rfl rfl (by simp only [List.forall_mem_cons]; exact ⟨rfl, rfl, rfl, rfl, rfl, rfl, rfl, rfl, rfl, (Own.rd o70).one, (Own.rd o71).one, (Own.rd o72).one, rfl, (Own.rd o73).one, (Own.rd o74).one, rfl, rfl, rfl, rfl, fun v hv => by cases hv⟩) hb1 rfl) ?_))))
    rintro _ w17 ⟨hb9, k14, z9⟩
    replace o3 := o3.keep k14 (fun x hx hm => sb_b1_o3 x hx (List.mem_singleton.1 hm))
    replace o70 := o70.keep k14 (fun x hx hm => (fun x hx => (show x ≠ b1 from by have := (o70.blk x hx).1; omega)) x hx (List.mem_singleton.1 hm))
    replace o71 := o71.keep k14 (fun x hx hm => (fun x hx => (show x ≠ b1 from by have := (o71.blk x hx).1; omega)) x hx (List.mem_singleton.1 hm))
    replace o72 := o72.keep k14 (fun x hx hm => (fun x hx => (show x ≠ b1 from by have := (o72.blk x hx).1; omega)) x hx (List.mem_singleton.1 hm))
    replace o73 := o73.keep k14 (fun x hx hm => (fun x hx => (show x ≠ b1 from by have := (o73.blk x hx).1; omega)) x hx (List.mem_singleton.1 hm))
    replace o74 := o74.keep k14 (fun x hx hm => (fun x hx => (show x ≠ b1 from by have := (o74.blk x hx).1; omega)) x hx (List.mem_singleton.1 hm))
    replace hb7 := hb7.keep k14 (nm (Ne.symm ne_b1_b2))
    replace o4 := o4.keep k14 (fun x hx hm => sb_b1_o4 x hx (List.mem_singleton.1 hm))
    replace hB := hB.new k14 (nw ge_b1)
    clear z9
    replace hb9 : Bk w17 b1 _ [.int .i64 (kyA c).1, .slice none 0 0, .slice none 0 0, .slice none 0 0, .slice none 0 0, .int .i64 0, .slice none 0 0, .slice none 0 0, .slice none 0 0, r0, r1, r2, .int .i64 (glR (kyV c).1).src, r3, r4, .int .i64 0, .slice none 0 0, .slice none 0 0, .slice none 0 0] := hb9
    refine oga rfl rfl (a6 (bJ hfin Try.results9 rfl (ar dY bz hb9 rfl) rfl ?_))
    have hk : (kyA c).1 = 2 := by assumption
    obtain ⟨e1, e2, e3⟩ := lQ hk
    have eX : kpP c = ⟨(kyA c).1, bg, glR (kyV c).1, 0, [], [], []⟩ := by
     unfold kpP; simp only; rw [if_pos (by omega)]; rw [hk]; exact e1
    obtain ⟨hd1, hd2⟩ := dX c
    have hok : kpOk c = true := by
     have hh := ic (prOk ⟨(kyA c).1, bg, glR (kyV c).1, 0, [], [], []⟩) (prB ⟨(kyA c).1, bg, glR (kyV c).1, 0, [], [], []⟩) c
     rw [show (decide ((bif prOk ⟨(kyA c).1, bg, glR (kyV c).1, 0, [], [], []⟩ then (0 : Int) else 1) ≠ 0) || decide (¬ (bif prOk ⟨(kyA c).1, bg, glR (kyV c).1, 0, [], [], []⟩ then prB ⟨(kyA c).1, bg, glR (kyV c).1, 0, [], [], []⟩ else []) = c)) = false from by assumption] at hh
     unfold kpOk; rw [eX]; cases hq : (prOk ⟨(kyA c).1, bg, glR (kyV c).1, 0, [], [], []⟩ && decide (prB ⟨(kyA c).1, bg, glR (kyV c).1, 0, [], [], []⟩ = c)) <;> rw [hq] at hh <;> first | rfl | (cases hh; done)
    rw [show kgR c = ⟨(kyA c).1, bg, glR (kyV c).1, 0, [], [], []⟩ from by unfold kgR; rw [hd1, hok, cond_true, ← hd2 hok]; exact eX, show kgE c = 0 from by unfold kgE; rw [hd1, hok]; rfl]
    exact ⟨_, _, _, _, _, _, _, _, _, _, _, _, _, _, _, rfl, a8 _ _ _ _, a8 _ _ _ _, a8 _ _ _ _, a8 _ _ _ _, a8 _ _ _ _, a8 _ _ _ _, a8 _ _ _ _, o70.lo gwQ, o71.lo gwQ, o72.lo gwQ, o73.lo gwQ, o74.lo gwQ, a8 _ _ _ _, a8 _ _ _ _, a8 _ _ _ _, hB⟩
  ·
   refine a5 (aZ (a7 (bE rfl rfl) rfl (oga rfl rfl (a6 (bF rfl (fun hc5 => ?_) (fun hc5 => ?_))))))
   ·
    refine aZ (ogm rfl rfl ?_)
    have lv_km4 := rr.lt
    refine ah (ab (vs := [_, _]) rfl (mc p1 (kyA c).2.1 (kyA c).2.2 _ rr)) rfl ?_
    rintro _ w18 ⟨rfl, rr, km4⟩
    have z_km4 := km4.size
    replace hb1 := hb1.keep km4 (fun hm => by have h9 := List.mem_singleton.1 hm; omega)
    replace hb3 := hb3.keep km4 (fun hm => by have h9 := List.mem_singleton.1 hm; omega)
    replace hB := hB.new km4 (fun x hm => .inl (by have h9 := List.mem_singleton.1 hm; omega))
    have rr : Rdr w18 p1 (kyN c).2.1 (kyN c).2.2 := rr
    show OW _ _ _ _ _ _ ((39, .int .i64 (kyN c).1) :: _) _
    refine a7 (ak aH rfl bh (by decide) rfl) rfl (an (bV bh rfl rfl rfl hb3 rfl) ?_)
    rintro _ w19 ⟨hb10, k15, z10⟩
    replace hb1 := hb1.keep k15 (nm ne_b1_b2)
    replace rr := rr.keep k15 (fun x hx hm => (fun x (hx : x ≤ p1) => (show x ≠ b2 from by omega)) x hx (List.mem_singleton.1 hm))
    replace hB := hB.new k15 (nw ge_b2)
    clear z10
    replace hb10 : Bk w19 b2 _ [.int .i64 (kyA c).1, .slice none 0 0, .slice none 0 0, .slice none 0 0, .slice none 0 0, .int .i64 0, .slice none 0 0, .slice none 0 0, .slice none 0 0, .slice none 0 0, .slice none 0 0, .slice none 0 0, .int .i64 0, .slice none 0 0, .slice none 0 0, .int .i64 (kyN c).1, .slice none 0 0, .slice none 0 0, .slice none 0 0] := hb10
    refine a6 (cG (a5 (a5 (aZ (a7 (au (cs' := [_, _, _, _, _, _, _, _, _, _, _, _, _, _, _, _, _, _, _]) dY bz rfl hb10 rfl rfl) rfl (ah (ab (vs := [_]) rfl (eQ _ _ _ _ _ _ _ _ _ _ _ _ _ _ _ ⟨(kyA c).1, bg, bf, (kyN c).1, [], [], []⟩ _ (show RdB _ _ [] from Rd.nil _ _) (show RdB _ _ [] from Rd.nil _ _) (show RdB _ _ [] from Rd.nil _ _) (show RdB _ _ [] from Rd.nil _ _) (show RdB _ _ [] from Rd.nil _ _) (show RdB _ _ [] from Rd.nil _ _) (show RdB _ _ [] from Rd.nil _ _) (show RdB _ _ [] from Rd.nil _ _) (show RdB _ _ [] from Rd.nil _ _) (show RdB _ _ [] from Rd.nil _ _) (show RdB _ _ [] from Rd.nil _ _) (show RdB _ _ [] from Rd.nil _ _) (show RdB _ _ [] from Rd.nil _ _) (show RdB _ _ [] from Rd.nil _ _) (show RdB _ _ [] from Rd.nil _ _) (Nat.zero_le _) (Nat.zero_le _) (Nat.zero_le _) (Nat.zero_le _) (Nat.zero_le _) (Nat.zero_le _) (Nat.zero_le _) (Nat.zero_le _) (Nat.zero_le _) (Nat.zero_le _) (Nat.zero_le _) (Nat.zero_le _) (Nat.zero_le _) (Nat.zero_le _) (Nat.zero_le _))) rfl ?_))))))
    rintro _ w20 ⟨u3, rfl, o5, k16⟩
    have gl_o5 := hB.size
    have sb_b1_o5 := fun x hx => (show x ≠ b1 from by have h1 := (o5.blk x hx).1; have h2 := hb1.lt; omega)
    obtain ⟨hB, hb1, hb10⟩ := cS k16 hB hb1 hb10
    refine ogm rfl rfl (a7 (bH (vs := [_, _]) rfl rfl) rfl (a7 (bH (vs := [_, _]) rfl rfl) rfl (oga rfl rfl (oga rfl rfl (a6 (af [(0, _), (2, _), (5, _), (6, _), (7, _)] ⟨rfl, rfl, rfl, rfl, rfl, trivial⟩ (a5 (aZ (ogm rfl rfl (a7 (bn rfl rfl) rfl (ogm rfl rfl (aq 56 false rfl (fun c3 hgc3 => a9 [(6, _)] (ad rfl rfl rfl hgc3) ⟨bB rfl, trivial⟩ (fun hw9 => bC rfl) rfl (a9 [(0, _)] (ad rfl rfl rfl hgc3) ⟨bB rfl, trivial⟩ (fun hw10 => bC rfl) rfl (dk [(57, _), (58, _)] (ad rfl rfl rfl hgc3) ⟨ag rfl, ag rfl, trivial⟩ (fun hw11 => ab (vs := [_, _]) rfl (dm _ _ (bif prOk ⟨(kyA c).1, bg, bf, (kyN c).1, [], [], []⟩ then prB ⟨(kyA c).1, bg, bf, (kyN c).1, [], [], []⟩ else []) c _ o5.rd (hv.oC hB))) rfl (a9 [(59, _)] (ad rfl rfl rfl hgc3) ⟨ag rfl, trivial⟩ (fun hw12 => eu rfl) rfl ?_))))))))))))))))
    refine a7 (bP rfl rfl hgc3) rfl (a6 (af [(2, _), (5, _), (61, _)] ⟨rfl, rfl, rfl, trivial⟩ (bD rfl (fun hc6 => ?_) (fun hc6 => ?_))))
    ·
     have hd5 := hc6
     try (simp only [Bool.and_eq_true, Bool.or_eq_true, decide_eq_true_eq, Bool.and_eq_false_iff, Bool.or_eq_false_iff, decide_eq_false_iff_not, Bool.not_eq_true', Bool.not_eq_false', Bool.not_eq_true, Bool.not_eq_false, ne_eq, Decidable.not_not, decide_true, decide_false, Bool.true_and, Bool.false_and, Bool.or_false, Bool.false_or, not_true_eq_false, false_or, or_false, true_and, and_true, not_false_eq_true, reduceCtorEq] at hd5)
     refine a5 (aZ (a7 (cA (idx := []) (xs := []) (vs := []) (css := []) (out := [_, _, _, _, _, _, _, _, _, _, _, _, _, _, _, _, _, _, _]) lH bz rfl rfl trivial rfl rfl) rfl (an (bK bz rfl rfl rfl (by simp only [List.forall_mem_cons]; refine ⟨rfl, rfl, rfl, rfl, rfl, rfl, rfl, rfl, rfl, rfl, rfl, rfl, rfl, rfl, rfl, rfl, rfl, rfl, rfl, fun v hv => by cases hv⟩) hb1 rfl) ?_)))
     rintro _ w21 ⟨hb11, k17, z11⟩
     replace hb10 := hb10.keep k17 (nm (Ne.symm ne_b1_b2))
     replace o5 := o5.keep k17 (fun x hx hm => sb_b1_o5 x hx (List.mem_singleton.1 hm))
     replace hB := hB.new k17 (nw ge_b1)
     clear z11
     replace hb11 : Bk w21 b1 _ [.int .i64 0, .slice none 0 0, .slice none 0 0, .slice none 0 0, .slice none 0 0, .int .i64 0, .slice none 0 0, .slice none 0 0, .slice none 0 0, .slice none 0 0, .slice none 0 0, .slice none 0 0, .int .i64 0, .slice none 0 0, .slice none 0 0, .int .i64 0, .slice none 0 0, .slice none 0 0, .slice none 0 0] := hb11
     refine oga rfl rfl (a6 (bJ hfin Try.results9 rfl (ar dY bz hb11 rfl) rfl ?_))
     have hk : (kyA c).1 = 3 := by assumption
     obtain ⟨e1, e2, e3⟩ := lP hk
     have eX : kpP c = ⟨(kyA c).1, bg, bf, (kyN c).1, [], [], []⟩ := by
      unfold kpP; simp only; rw [if_pos (by omega)]; rw [hk]; exact e1
     obtain ⟨hd1, hd2⟩ := dX c
     have hok : kpOk c = false := by
      have hh := ic (prOk ⟨(kyA c).1, bg, bf, (kyN c).1, [], [], []⟩) (prB ⟨(kyA c).1, bg, bf, (kyN c).1, [], [], []⟩) c
      rw [show (decide ((bif prOk ⟨(kyA c).1, bg, bf, (kyN c).1, [], [], []⟩ then (0 : Int) else 1) ≠ 0) || decide (¬ (bif prOk ⟨(kyA c).1, bg, bf, (kyN c).1, [], [], []⟩ then prB ⟨(kyA c).1, bg, bf, (kyN c).1, [], [], []⟩ else []) = c)) = true from by assumption] at hh
      unfold kpOk; rw [eX]; cases hq : (prOk ⟨(kyA c).1, bg, bf, (kyN c).1, [], [], []⟩ && decide (prB ⟨(kyA c).1, bg, bf, (kyN c).1, [], [], []⟩ = c)) <;> rw [hq] at hh <;> first | rfl | (cases hh; done)
     unfold kgR kgE; rw [hd1, hok]
     exact ⟨_, _, _, _, _, _, _, _, _, _, _, _, _, _, _, rfl, a8 _ _ _ _, a8 _ _ _ _, a8 _ _ _ _, a8 _ _ _ _, a8 _ _ _ _, a8 _ _ _ _, a8 _ _ _ _, a8 _ _ _ _, a8 _ _ _ _, a8 _ _ _ _, a8 _ _ _ _, a8 _ _ _ _, a8 _ _ _ _, a8 _ _ _ _, a8 _ _ _ _, hB⟩
    ·
     have hd6 := hc6
     try (simp only [Bool.and_eq_true, Bool.or_eq_true, decide_eq_true_eq, Bool.and_eq_false_iff, Bool.or_eq_false_iff, decide_eq_false_iff_not, Bool.not_eq_true', Bool.not_eq_false', Bool.not_eq_true, Bool.not_eq_false, ne_eq, Decidable.not_not, decide_true, decide_false, Bool.true_and, Bool.false_and, Bool.or_false, Bool.false_or, not_true_eq_false, false_or, or_false, true_and, and_true, not_false_eq_true, reduceCtorEq] at hd6)
     refine aj (a5 (aZ (a7 (au (cs' := [_, _, _, _, _, _, _, _, _, _, _, _, _, _, _, _, _, _, _]) dY bz rfl hb10 rfl rfl) rfl (an (bK bz rfl rfl rfl (by simp only [List.forall_mem_cons]; refine ⟨rfl, rfl, rfl, rfl, rfl, rfl, rfl, rfl, rfl, rfl, rfl, rfl, rfl, rfl, rfl, rfl, rfl, rfl, rfl, fun v hv => by cases hv⟩) hb1 rfl) ?_))))
     rintro _ w22 ⟨hb12, k18, z12⟩
     replace hb10 := hb10.keep k18 (nm (Ne.symm ne_b1_b2))
     replace o5 := o5.keep k18 (fun x hx hm => sb_b1_o5 x hx (List.mem_singleton.1 hm))
     replace hB := hB.new k18 (nw ge_b1)
     clear z12
     replace hb12 : Bk w22 b1 _ [.int .i64 (kyA c).1, .slice none 0 0, .slice none 0 0, .slice none 0 0, .slice none 0 0, .int .i64 0, .slice none 0 0, .slice none 0 0, .slice none 0 0, .slice none 0 0, .slice none 0 0, .slice none 0 0, .int .i64 0, .slice none 0 0, .slice none 0 0, .int .i64 (kyN c).1, .slice none 0 0, .slice none 0 0, .slice none 0 0] := hb12
     refine oga rfl rfl (a6 (bJ hfin Try.results9 rfl (ar dY bz hb12 rfl) rfl ?_))
     have hk : (kyA c).1 = 3 := by assumption
     obtain ⟨e1, e2, e3⟩ := lP hk
     have eX : kpP c = ⟨(kyA c).1, bg, bf, (kyN c).1, [], [], []⟩ := by
      unfold kpP; simp only; rw [if_pos (by omega)]; rw [hk]; exact e1
     obtain ⟨hd1, hd2⟩ := dX c
     have hok : kpOk c = true := by
      have hh := ic (prOk ⟨(kyA c).1, bg, bf, (kyN c).1, [], [], []⟩) (prB ⟨(kyA c).1, bg, bf, (kyN c).1, [], [], []⟩) c
      rw [show (decide ((bif prOk ⟨(kyA c).1, bg, bf, (kyN c).1, [], [], []⟩ then (0 : Int) else 1) ≠ 0) || decide (¬ (bif prOk ⟨(kyA c).1, bg, bf, (kyN c).1, [], [], []⟩ then prB ⟨(kyA c).1, bg, bf, (kyN c).1, [], [], []⟩ else []) = c)) = false from by assumption] at hh
      unfold kpOk; rw [eX]; cases hq : (prOk ⟨(kyA c).1, bg, bf, (kyN c).1, [], [], []⟩ && decide (prB ⟨(kyA c).1, bg, bf, (kyN c).1, [], [], []⟩ = c)) <;> rw [hq] at hh <;> first | rfl | (cases hh; done)
     rw [show kgR c = ⟨(kyA c).1, bg, bf, (kyN c).1, [], [], []⟩ from by unfold kgR; rw [hd1, hok, cond_true, ← hd2 hok]; exact eX, show kgE c = 0 from by unfold kgE; rw [hd1, hok]; rfl]
     exact ⟨_, _, _, _, _, _, _, _, _, _, _, _, _, _, _, rfl, a8 _ _ _ _, a8 _ _ _ _, a8 _ _ _ _, a8 _ _ _ _, a8 _ _ _ _, a8 _ _ _ _, a8 _ _ _ _, a8 _ _ _ _, a8 _ _ _ _, a8 _ _ _ _, a8 _ _ _ _, a8 _ _ _ _, a8 _ _ _ _, a8 _ _ _ _, a8 _ _ _ _, hB⟩
   ·
    refine a5 (aZ (a7 (bE rfl rfl) rfl (oga rfl rfl (a6 (bF rfl (fun hc7 => ?_) (fun hc7 => ?_))))))
    ·
     refine aZ (ogm rfl rfl ?_)
     have lv_km5 := rr.lt
     have gw_o6 := hB.size
     have lb_o6_b1 := hb1.lt
     have lb_o6_b2 := hb3.lt
     refine ah (ab (vs := [_]) rfl (bQ p1 (kyA c).2.1 (kyA c).2.2 _ rr (by omega))) rfl ?_
     rintro v3 w23 ⟨_, rfl, o6, rr, km5⟩
     have gl_o6 := hB.size
     have sb_b1_o6 := fun x hx => (show x ≠ b1 from by have h1 := (o6.blk x hx).1; have h2 := hb1.lt; omega)
     have sb_b2_o6 := fun x hx => (show x ≠ b2 from by have h1 := (o6.blk x hx).1; have h2 := hb3.lt; omega)
     have z_km5 := km5.size
     replace hb1 := hb1.keep km5 (fun hm => by have h9 := List.mem_singleton.1 hm; omega)
     replace hb3 := hb3.keep km5 (fun hm => by have h9 := List.mem_singleton.1 hm; omega)
     replace hB := hB.new km5 (fun x hm => .inl (by have h9 := List.mem_singleton.1 hm; omega))
     have rr : Rdr w23 p1 (kyV c).2.1 (kyV c).2.2 := rr
     replace o6 : OwnB w23 w5.heap.size v3 (kyV c).1 := o6
     refine ogm rfl rfl ?_
     have lv_km6 := rr.lt
     have gw_o7 := hB.size
     have lb_o7_b1 := hb1.lt
     have lb_o7_b2 := hb3.lt
     refine ah (ab (vs := [_]) rfl (bQ p1 (kyV c).2.1 (kyV c).2.2 _ rr (by omega))) rfl ?_
     rintro v4 w24 ⟨_, rfl, o7, rr, km6⟩
     have gl_o7 := hB.size
     have sb_b1_o7 := fun x hx => (show x ≠ b1 from by have h1 := (o7.blk x hx).1; have h2 := hb1.lt; omega)
     have sb_b2_o7 := fun x hx => (show x ≠ b2 from by have h1 := (o7.blk x hx).1; have h2 := hb3.lt; omega)
     have z_km6 := km6.size
     replace hb1 := hb1.keep km6 (fun hm => by have h9 := List.mem_singleton.1 hm; omega)
     replace hb3 := hb3.keep km6 (fun hm => by have h9 := List.mem_singleton.1 hm; omega)
     replace o6 := o6.keep km6 (fun x hx hm => by have h9 := List.mem_singleton.1 hm; have h8 := (o6.blk x hx).1; omega)
     replace hB := hB.new km6 (fun x hm => .inl (by have h9 := List.mem_singleton.1 hm; omega))
     have rr : Rdr w24 p1 (kyW c).2.1 (kyW c).2.2 := rr
     replace o7 : OwnB w24 w23.heap.size v4 (kyW c).1 := o7
     refine a7 (ak aH rfl am (by decide) rfl) rfl (an (bV am rfl rfl (Rd.one (by first | assumption | exact Own.rd ‹_› | exact Rd.oC ‹_› hB | exact Own.rd (Own.oC ‹_› hB))) hb3 rfl) ?_)
     rintro _ w25 ⟨hb13, k19, z13⟩
     replace hb1 := hb1.keep k19 (nm ne_b1_b2)
     replace rr := rr.keep k19 (fun x hx hm => (fun x (hx : x ≤ p1) => (show x ≠ b2 from by omega)) x hx (List.mem_singleton.1 hm))
     replace o6 := o6.keep k19 (fun x hx hm => sb_b2_o6 x hx (List.mem_singleton.1 hm))
     replace o7 := o7.keep k19 (fun x hx hm => sb_b2_o7 x hx (List.mem_singleton.1 hm))
     replace hB := hB.new k19 (nw ge_b2)
     clear z13
     replace hb13 : Bk w25 b2 _ [.int .i64 (kyA c).1, .slice none 0 0, .slice none 0 0, .slice none 0 0, .slice none 0 0, .int .i64 0, .slice none 0 0, .slice none 0 0, .slice none 0 0, .slice none 0 0, .slice none 0 0, .slice none 0 0, .int .i64 0, .slice none 0 0, .slice none 0 0, .int .i64 0, v3, .slice none 0 0, .slice none 0 0] := hb13
     refine a7 (ak aH rfl am (by decide) rfl) rfl (an (bV am rfl rfl (Rd.one (by first | assumption | exact Own.rd ‹_› | exact Rd.oC ‹_› hB | exact Own.rd (Own.oC ‹_› hB))) hb13 rfl) ?_)
     rintro _ w26 ⟨hb14, k20, z14⟩
     replace hb1 := hb1.keep k20 (nm ne_b1_b2)
     replace rr := rr.keep k20 (fun x hx hm => (fun x (hx : x ≤ p1) => (show x ≠ b2 from by omega)) x hx (List.mem_singleton.1 hm))
     replace o6 := o6.keep k20 (fun x hx hm => sb_b2_o6 x hx (List.mem_singleton.1 hm))
     replace o7 := o7.keep k20 (fun x hx hm => sb_b2_o7 x hx (List.mem_singleton.1 hm))
     replace hB := hB.new k20 (nw ge_b2)
     clear z14
     replace hb14 : Bk w26 b2 _ [.int .i64 (kyA c).1, .slice none 0 0, .slice none 0 0, .slice none 0 0, .slice none 0 0, .int .i64 0, .slice none 0 0, .slice none 0 0, .slice none 0 0, .slice none 0 0, .slice none 0 0, .slice none 0 0, .int .i64 0, .slice none 0 0, .slice none 0 0, .int .i64 0, v3, v4, .slice none 0 0] := hb14
     refine a6 (af [(0, _), (2, _), (5, _)] ⟨rfl, rfl, rfl, trivial⟩ (cG (a5 (a5 (aZ (a7 (au (cs' := [_, _, _, _, _, _, _, _, _, _, _, _, _, _, _, _, _, _, _]) dY bz rfl hb14 rfl rfl) rfl (ah (ab (vs := [_]) rfl (eQ _ _ _ _ _ _ _ _ _ _ _ _ _ _ _ ⟨(kyA c).1, bg, bf, 0, (kyV c).1, (kyW c).1, []⟩ _ (show RdB _ _ [] from Rd.nil _ _) (show RdB _ _ [] from Rd.nil _ _) (show RdB _ _ [] from Rd.nil _ _) (show RdB _ _ [] from Rd.nil _ _) (show RdB _ _ [] from Rd.nil _ _) (show RdB _ _ [] from Rd.nil _ _) (show RdB _ _ [] from Rd.nil _ _) (show RdB _ _ [] from Rd.nil _ _) (show RdB _ _ [] from Rd.nil _ _) (show RdB _ _ [] from Rd.nil _ _) (show RdB _ _ [] from Rd.nil _ _) (show RdB _ _ [] from Rd.nil _ _) o6.rd o7.rd (show RdB _ _ [] from Rd.nil _ _) (Nat.zero_le _) (Nat.zero_le _) (Nat.zero_le _) (Nat.zero_le _) (Nat.zero_le _) (Nat.zero_le _) (Nat.zero_le _) (Nat.zero_le _) (Nat.zero_le _) (Nat.zero_le _) (Nat.zero_le _) (Nat.zero_le _) hlV hlW (Nat.zero_le _))) rfl ?_)))))))
     rintro _ w27 ⟨u4, rfl, o8, k21⟩
     have gl_o8 := hB.size
     have sb_b1_o8 := fun x hx => (show x ≠ b1 from by have h1 := (o8.blk x hx).1; have h2 := hb1.lt; omega)
     replace hb1 := hb1.oC k21
     replace o6 := o6.oC k21
     replace o7 := o7.oC k21
     obtain ⟨hB, hb14⟩ := bX k21 hB hb14
     refine ogm rfl rfl (a7 (bH (vs := [_, _]) rfl rfl) rfl (a7 (bH (vs := [_, _]) rfl rfl) rfl (oga rfl rfl (oga rfl rfl (a6 (a5 (aZ (ogm rfl rfl (a7 (bn rfl rfl) rfl (ogm rfl rfl (aq 56 false rfl (fun c4 hgc4 => a9 [(6, _)] (ad rfl rfl rfl hgc4) ⟨bB rfl, trivial⟩ (fun hw13 => bC rfl) rfl (a9 [(0, _)] (ad rfl rfl rfl hgc4) ⟨bB rfl, trivial⟩ (fun hw14 => bC rfl) rfl (dk [(57, _), (58, _)] (ad rfl rfl rfl hgc4) ⟨ag rfl, ag rfl, trivial⟩ (fun hw15 => ab (vs := [_, _]) rfl (dm _ _ (bif prOk ⟨(kyA c).1, bg, bf, 0, (kyV c).1, (kyW c).1, []⟩ then prB ⟨(kyA c).1, bg, bf, 0, (kyV c).1, (kyW c).1, []⟩ else []) c _ o8.rd (hv.oC hB))) rfl (a9 [(59, _)] (ad rfl rfl rfl hgc4) ⟨ag rfl, trivial⟩ (fun hw16 => eu rfl) rfl (a7 (bP rfl rfl hgc4) rfl ?_))))))))))))))))
     refine a6 (af [(2, _), (5, _), (61, _)] ⟨rfl, rfl, rfl, trivial⟩ (bD rfl (fun hc8 => ?_) (fun hc8 => ?_)))
     ·
      have hd7 := hc8
      try (simp only [Bool.and_eq_true, Bool.or_eq_true, decide_eq_true_eq, Bool.and_eq_false_iff, Bool.or_eq_false_iff, decide_eq_false_iff_not, Bool.not_eq_true', Bool.not_eq_false', Bool.not_eq_true, Bool.not_eq_false, ne_eq, Decidable.not_not, decide_true, decide_false, Bool.true_and, Bool.false_and, Bool.or_false, Bool.false_or, not_true_eq_false, false_or, or_false, true_and, and_true, not_false_eq_true, reduceCtorEq] at hd7)
      refine a5 (aZ (a7 (cA (idx := []) (xs := []) (vs := []) (css := []) (out := [_, _, _, _, _, _, _, _, _, _, _, _, _, _, _, _, _, _, _]) lH bz rfl rfl trivial rfl rfl) rfl (an (bK bz rfl rfl rfl (by simp only [List.forall_mem_cons]; refine ⟨rfl, rfl, rfl, rfl, rfl, rfl, rfl, rfl, rfl, rfl, rfl, rfl, rfl, rfl, rfl, rfl, rfl, rfl, rfl, fun v hv => by cases hv⟩) hb1 rfl) ?_)))
      rintro _ w28 ⟨hb15, k22, z15⟩
      replace o6 := o6.keep k22 (fun x hx hm => sb_b1_o6 x hx (List.mem_singleton.1 hm))
      replace o7 := o7.keep k22 (fun x hx hm => sb_b1_o7 x hx (List.mem_singleton.1 hm))
      replace hb14 := hb14.keep k22 (nm (Ne.symm ne_b1_b2))
      replace o8 := o8.keep k22 (fun x hx hm => sb_b1_o8 x hx (List.mem_singleton.1 hm))
      replace hB := hB.new k22 (nw ge_b1)
      clear z15
      replace hb15 : Bk w28 b1 _ [.int .i64 0, .slice none 0 0, .slice none 0 0, .slice none 0 0, .slice none 0 0, .int .i64 0, .slice none 0 0, .slice none 0 0, .slice none 0 0, .slice none 0 0, .slice none 0 0, .slice none 0 0, .int .i64 0, .slice none 0 0, .slice none 0 0, .int .i64 0, .slice none 0 0, .slice none 0 0, .slice none 0 0] := hb15
      refine oga rfl rfl (a6 (bJ hfin Try.results9 rfl (ar dY bz hb15 rfl) rfl ?_))
      have hk : (kyA c).1 = 4 := by assumption
      obtain ⟨e1, e2, e3⟩ := lO hk
      have eX : kpP c = ⟨(kyA c).1, bg, bf, 0, (kyV c).1, (kyW c).1, []⟩ := by
       unfold kpP; simp only; rw [if_pos (by omega)]; rw [hk]; exact e1
      obtain ⟨hd1, hd2⟩ := dX c
      have hok : kpOk c = false := by
       have hh := ic (prOk ⟨(kyA c).1, bg, bf, 0, (kyV c).1, (kyW c).1, []⟩) (prB ⟨(kyA c).1, bg, bf, 0, (kyV c).1, (kyW c).1, []⟩) c
       rw [show (decide ((bif prOk ⟨(kyA c).1, bg, bf, 0, (kyV c).1, (kyW c).1, []⟩ then (0 : Int) else 1) ≠ 0) || decide (¬ (bif prOk ⟨(kyA c).1, bg, bf, 0, (kyV c).1, (kyW c).1, []⟩ then prB ⟨(kyA c).1, bg, bf, 0, (kyV c).1, (kyW c).1, []⟩ else []) = c)) = true from by assumption] at hh
       unfold kpOk; rw [eX]; cases hq : (prOk ⟨(kyA c).1, bg, bf, 0, (kyV c).1, (kyW c).1, []⟩ && decide (prB ⟨(kyA c).1, bg, bf, 0, (kyV c).1, (kyW c).1, []⟩ = c)) <;> rw [hq] at hh <;> first | rfl | (cases hh; done)
      unfold kgR kgE; rw [hd1, hok]
      exact ⟨_, _, _, _, _, _, _, _, _, _, _, _, _, _, _, rfl, a8 _ _ _ _, a8 _ _ _ _, a8 _ _ _ _, a8 _ _ _ _, a8 _ _ _ _, a8 _ _ _ _, a8 _ _ _ _, a8 _ _ _ _, a8 _ _ _ _, a8 _ _ _ _, a8 _ _ _ _, a8 _ _ _ _, a8 _ _ _ _, a8 _ _ _ _, a8 _ _ _ _, hB⟩
     ·
      have hd8 := hc8
      try (simp only [Bool.and_eq_true, Bool.or_eq_true, decide_eq_true_eq, Bool.and_eq_false_iff, Bool.or_eq_false_iff, decide_eq_false_iff_not, Bool.not_eq_true', Bool.not_eq_false', Bool.not_eq_true, Bool.not_eq_false, ne_eq, Decidable.not_not, decide_true, decide_false, Bool.true_and, Bool.false_and, Bool.or_false, Bool.false_or, not_true_eq_false, false_or, or_false, true_and, and_true, not_false_eq_true, reduceCtorEq] at hd8)
      refine aj (a5 (aZ (a7 (au (cs' := [_, _, _, _, _, _, _, _, _, _, _, _, _, _, _, _, _, _, _]) dY bz rfl hb14 rfl rfl) rfl (an (bK bz rfl rfl rfl (by simp only [List.forall_mem_cons]; exact ⟨rfl, rfl, rfl, rfl, rfl, rfl, rfl, rfl, rfl, rfl, rfl, rfl, rfl, rfl, rfl, rfl, (Own.rd o6).one, (Own.rd o7).one, rfl, fun v hv => by cases hv⟩) hb1 rfl) ?_))))
      rintro _ w29 ⟨hb16, k23, z16⟩
      replace o6 := o6.keep k23 (fun x hx hm => sb_b1_o6 x hx (List.mem_singleton.1 hm))
      replace o7 := o7.keep k23 (fun x hx hm => sb_b1_o7 x hx (List.mem_singleton.1 hm))
      replace hb14 := hb14.keep k23 (nm (Ne.symm ne_b1_b2))
      replace o8 := o8.keep k23 (fun x hx hm => sb_b1_o8 x hx (List.mem_singleton.1 hm))
      replace hB := hB.new k23 (nw ge_b1)
      clear z16
      replace hb16 : Bk w29 b1 _ [.int .i64 (kyA c).1, .slice none 0 0, .slice none 0 0, .slice none 0 0, .slice none 0 0, .int .i64 0, .slice none 0 0, .slice none 0 0, .slice none 0 0, .slice none 0 0, .slice none 0 0, .slice none 0 0, .int .i64 0, .slice none 0 0, .slice none 0 0, .int .i64 0, v3, v4, .slice none 0 0] := hb16
      refine oga rfl rfl (a6 (bJ hfin Try.results9 rfl (ar dY bz hb16 rfl) rfl ?_))
      have hk : (kyA c).1 = 4 := by assumption
      obtain ⟨e1, e2, e3⟩ := lO hk
      have eX : kpP c = ⟨(kyA c).1, bg, bf, 0, (kyV c).1, (kyW c).1, []⟩ := by
       unfold kpP; simp only; rw [if_pos (by omega)]; rw [hk]; exact e1
      obtain ⟨hd1, hd2⟩ := dX c
      have hok : kpOk c = true := by
       have hh := ic (prOk ⟨(kyA c).1, bg, bf, 0, (kyV c).1, (kyW c).1, []⟩) (prB ⟨(kyA c).1, bg, bf, 0, (kyV c).1, (kyW c).1, []⟩) c
       rw [show (decide ((bif prOk ⟨(kyA c).1, bg, bf, 0, (kyV c).1, (kyW c).1, []⟩ then (0 : Int) else 1) ≠ 0) || decide (¬ (bif prOk ⟨(kyA c).1, bg, bf, 0, (kyV c).1, (kyW c).1, []⟩ then prB ⟨(kyA c).1, bg, bf, 0, (kyV c).1, (kyW c).1, []⟩ else []) = c)) = false from by assumption] at hh
       unfold kpOk; rw [eX]; cases hq : (prOk ⟨(kyA c).1, bg, bf, 0, (kyV c).1, (kyW c).1, []⟩ && decide (prB ⟨(kyA c).1, bg, bf, 0, (kyV c).1, (kyW c).1, []⟩ = c)) <;> rw [hq] at hh <;> first | rfl | (cases hh; done)
      rw [show kgR c = ⟨(kyA c).1, bg, bf, 0, (kyV c).1, (kyW c).1, []⟩ from by unfold kgR; rw [hd1, hok, cond_true, ← hd2 hok]; exact eX, show kgE c = 0 from by unfold kgE; rw [hd1, hok]; rfl]
      exact ⟨_, _, _, _, _, _, _, _, _, _, _, _, _, _, _, rfl, a8 _ _ _ _, a8 _ _ _ _, a8 _ _ _ _, a8 _ _ _ _, a8 _ _ _ _, a8 _ _ _ _, a8 _ _ _ _, a8 _ _ _ _, a8 _ _ _ _, a8 _ _ _ _, a8 _ _ _ _, a8 _ _ _ _, o6.lo gw_o6, o7.lo gw_o7, a8 _ _ _ _, hB⟩
    ·
     refine aZ (ogm rfl rfl ?_)
     have lv_km7 := rr.lt
     have gw_o9 := hB.size
     have lb_o9_b1 := hb1.lt
     have lb_o9_b2 := hb3.lt
     refine ah (ab (vs := [_]) rfl (bQ p1 (kyA c).2.1 (kyA c).2.2 _ rr (by omega))) rfl ?_
     rintro v5 w30 ⟨_, rfl, o9, rr, km7⟩
     have gl_o9 := hB.size
     have sb_b1_o9 := fun x hx => (show x ≠ b1 from by have h1 := (o9.blk x hx).1; have h2 := hb1.lt; omega)
     have sb_b2_o9 := fun x hx => (show x ≠ b2 from by have h1 := (o9.blk x hx).1; have h2 := hb3.lt; omega)
     have z_km7 := km7.size
     replace hb1 := hb1.keep km7 (fun hm => by have h9 := List.mem_singleton.1 hm; omega)
     replace hb3 := hb3.keep km7 (fun hm => by have h9 := List.mem_singleton.1 hm; omega)
     replace hB := hB.new km7 (fun x hm => .inl (by have h9 := List.mem_singleton.1 hm; omega))
     have rr : Rdr w30 p1 (kyV c).2.1 (kyV c).2.2 := rr
     replace o9 : OwnB w30 w5.heap.size v5 (kyV c).1 := o9
     refine a7 (ak aH rfl am (by decide) rfl) rfl (an (bV am rfl rfl (Rd.one (by first | assumption | exact Own.rd ‹_› | exact Rd.oC ‹_› hB | exact Own.rd (Own.oC ‹_› hB))) hb3 rfl) ?_)
     rintro _ w31 ⟨hb17, k24, z17⟩
     replace hb1 := hb1.keep k24 (nm ne_b1_b2)
     replace rr := rr.keep k24 (fun x hx hm => (fun x (hx : x ≤ p1) => (show x ≠ b2 from by omega)) x hx (List.mem_singleton.1 hm))
     replace o9 := o9.keep k24 (fun x hx hm => sb_b2_o9 x hx (List.mem_singleton.1 hm))
     replace hB := hB.new k24 (nw ge_b2)
     clear z17
     replace hb17 : Bk w31 b2 _ [.int .i64 (kyA c).1, .slice none 0 0, .slice none 0 0, .slice none 0 0, .slice none 0 0, .int .i64 0, .slice none 0 0, .slice none 0 0, .slice none 0 0, .slice none 0 0, .slice none 0 0, .slice none 0 0, .int .i64 0, .slice none 0 0, .slice none 0 0, .int .i64 0, .slice none 0 0, .slice none 0 0, v5] := hb17
     refine a6 (af [(0, _), (2, _), (5, _)] ⟨rfl, rfl, rfl, trivial⟩ (cG (a5 (a5 (aZ (a7 (au (cs' := [_, _, _, _, _, _, _, _, _, _, _, _, _, _, _, _, _, _, _]) dY bz rfl hb17 rfl rfl) rfl (ah (ab (vs := [_]) rfl (eQ _ _ _ _ _ _ _ _ _ _ _ _ _ _ _ ⟨(kyA c).1, bg, bf, 0, [], [], (kyV c).1⟩ _ (show RdB _ _ [] from Rd.nil _ _) (show RdB _ _ [] from Rd.nil _ _) (show RdB _ _ [] from Rd.nil _ _) (show RdB _ _ [] from Rd.nil _ _) (show RdB _ _ [] from Rd.nil _ _) (show RdB _ _ [] from Rd.nil _ _) (show RdB _ _ [] from Rd.nil _ _) (show RdB _ _ [] from Rd.nil _ _) (show RdB _ _ [] from Rd.nil _ _) (show RdB _ _ [] from Rd.nil _ _) (show RdB _ _ [] from Rd.nil _ _) (show RdB _ _ [] from Rd.nil _ _) (show RdB _ _ [] from Rd.nil _ _) (show RdB _ _ [] from Rd.nil _ _) o9.rd (Nat.zero_le _) (Nat.zero_le _) (Nat.zero_le _) (Nat.zero_le _) (Nat.zero_le _) (Nat.zero_le _) (Nat.zero_le _) (Nat.zero_le _) (Nat.zero_le _) (Nat.zero_le _) (Nat.zero_le _) (Nat.zero_le _) (Nat.zero_le _) (Nat.zero_le _) hlV)) rfl ?_)))))))
     rintro _ w32 ⟨u5, rfl, o10, k25⟩
     have gl_o10 := hB.size
     have sb_b1_o10 := fun x hx => (show x ≠ b1 from by have h1 := (o10.blk x hx).1; have h2 := hb1.lt; omega)
     replace hb1 := hb1.oC k25
     replace o9 := o9.oC k25
     obtain ⟨hB, hb17⟩ := bX k25 hB hb17
     refine ogm rfl rfl (a7 (bH (vs := [_, _]) rfl rfl) rfl (a7 (bH (vs := [_, _]) rfl rfl) rfl (oga rfl rfl (oga rfl rfl (a6 (a5 (aZ (ogm rfl rfl (a7 (bn rfl rfl) rfl (ogm rfl rfl (aq 56 false rfl (fun c5 hgc5 => a9 [(6, _)] (ad rfl rfl rfl hgc5) ⟨bB rfl, trivial⟩ (fun hw17 => bC rfl) rfl (a9 [(0, _)] (ad rfl rfl rfl hgc5) ⟨bB rfl, trivial⟩ (fun hw18 => bC rfl) rfl (dk [(57, _), (58, _)] (ad rfl rfl rfl hgc5) ⟨ag rfl, ag rfl, trivial⟩ (fun hw19 => ab (vs := [_, _]) rfl (dm _ _ (bif prOk ⟨(kyA c).1, bg, bf, 0, [], [], (kyV c).1⟩ then prB ⟨(kyA c).1, bg, bf, 0, [], [], (kyV c).1⟩ else []) c _ o10.rd (hv.oC hB))) rfl (a9 [(59, _)] (ad rfl rfl rfl hgc5) ⟨ag rfl, trivial⟩ (fun hw20 => eu rfl) rfl (a7 (bP rfl rfl hgc5) rfl ?_))))))))))))))))
     refine a6 (af [(2, _), (5, _), (61, _)] ⟨rfl, rfl, rfl, trivial⟩ (bD rfl (fun hc9 => ?_) (fun hc9 => ?_)))
     ·
      have hd9 := hc9
      try (simp only [Bool.and_eq_true, Bool.or_eq_true, decide_eq_true_eq, Bool.and_eq_false_iff, Bool.or_eq_false_iff, decide_eq_false_iff_not, Bool.not_eq_true', Bool.not_eq_false', Bool.not_eq_true, Bool.not_eq_false, ne_eq, Decidable.not_not, decide_true, decide_false, Bool.true_and, Bool.false_and, Bool.or_false, Bool.false_or, not_true_eq_false, false_or, or_false, true_and, and_true, not_false_eq_true, reduceCtorEq] at hd9)
      refine a5 (aZ (a7 (cA (idx := []) (xs := []) (vs := []) (css := []) (out := [_, _, _, _, _, _, _, _, _, _, _, _, _, _, _, _, _, _, _]) lH bz rfl rfl trivial rfl rfl) rfl (an (bK bz rfl rfl rfl (by simp only [List.forall_mem_cons]; refine ⟨rfl, rfl, rfl, rfl, rfl, rfl, rfl, rfl, rfl, rfl, rfl, rfl, rfl, rfl, rfl, rfl, rfl, rfl, rfl, fun v hv => by cases hv⟩) hb1 rfl) ?_)))
      rintro _ w33 ⟨hb18, k26, z18⟩
      replace o9 := o9.keep k26 (fun x hx hm => sb_b1_o9 x hx (List.mem_singleton.1 hm))
      replace hb17 := hb17.keep k26 (nm (Ne.symm ne_b1_b2))
      replace o10 := o10.keep k26 (fun x hx hm => sb_b1_o10 x hx (List.mem_singleton.1 hm))
      replace hB := hB.new k26 (nw ge_b1)
      clear z18
      replace hb18 : Bk w33 b1 _ [.int .i64 0, .slice none 0 0, .slice none 0 0, .slice none 0 0, .slice none 0 0, .int .i64 0, .slice none 0 0, .slice none 0 0, .slice none 0 0, .slice none 0 0, .slice none 0 0, .slice none 0 0, .int .i64 0, .slice none 0 0, .slice none 0 0, .int .i64 0, .slice none 0 0, .slice none 0 0, .slice none 0 0] := hb18
      refine oga rfl rfl (a6 (bJ hfin Try.results9 rfl (ar dY bz hb18 rfl) rfl ?_))
      have eX : kpP c = ⟨(kyA c).1, bg, bf, 0, [], [], (kyV c).1⟩ := by
       unfold kpP; simp only; rw [if_neg (by omega)]
      obtain ⟨hd1, hd2⟩ := dX c
      have hok : kpOk c = false := by
       have hh := ic (prOk ⟨(kyA c).1, bg, bf, 0, [], [], (kyV c).1⟩) (prB ⟨(kyA c).1, bg, bf, 0, [], [], (kyV c).1⟩) c
       rw [show (decide ((bif prOk ⟨(kyA c).1, bg, bf, 0, [], [], (kyV c).1⟩ then (0 : Int) else 1) ≠ 0) || decide (¬ (bif prOk ⟨(kyA c).1, bg, bf, 0, [], [], (kyV c).1⟩ then prB ⟨(kyA c).1, bg, bf, 0, [], [], (kyV c).1⟩ else []) = c)) = true from by assumption] at hh
       unfold kpOk; rw [eX]; cases hq : (prOk ⟨(kyA c).1, bg, bf, 0, [], [], (kyV c).1⟩ && decide (prB ⟨(kyA c).1, bg, bf, 0, [], [], (kyV c).1⟩ = c)) <;> rw [hq] at hh <;> first | rfl | (cases hh; done)
      unfold kgR kgE; rw [hd1, hok]
      exact ⟨_, _, _, _, _, _, _, _, _, _, _, _, _, _, _, rfl, a8 _ _ _ _, a8 _ _ _ _, a8 _ _ _ _, a8 _ _ _ _, a8 _ _ _ _, a8 _ _ _ _, a8 _ _ _ _, a8 _ _ _ _, a8 _ _ _ _, a8 _ _ _ _, a8 _ _ _ _, a8 _ _ _ _, a8 _ _ _ _, a8 _ _ _ _, a8 _ _ _ _, hB⟩
     ·
      have hd10 := hc9
      try (simp only [Bool.and_eq_true, Bool.or_eq_true, decide_eq_true_eq, Bool.and_eq_false_iff, Bool.or_eq_false_iff, decide_eq_false_iff_not, Bool.not_eq_true', Bool.not_eq_false', Bool.not_eq_true, Bool.not_eq_false, ne_eq, Decidable.not_not, decide_true, decide_false, Bool.true_and, Bool.false_and, Bool.or_false, Bool.false_or, not_true_eq_false, false_or, or_false, true_and, and_true, not_false_eq_true, reduceCtorEq] at hd10)
      refine aj (a5 (aZ (a7 (au (cs' := [_, _, _, _, _, _, _, _, _, _, _, _, _, _, _, _, _, _, _]) dY bz rfl hb17 rfl rfl) rfl (an (bK bz rfl rfl rfl (by simp only [List.forall_mem_cons]; exact ⟨rfl, rfl, rfl, rfl, rfl, rfl, rfl, rfl, rfl, rfl, rfl, rfl, rfl, rfl, rfl, rfl, rfl, rfl, (Own.rd o9).one, fun v hv => by cases hv⟩) hb1 rfl) ?_))))
      rintro _ w34 ⟨hb19, k27, z19⟩
      replace o9 := o9.keep k27 (fun x hx hm => sb_b1_o9 x hx (List.mem_singleton.1 hm))
      replace hb17 := hb17.keep k27 (nm (Ne.symm ne_b1_b2))
      replace o10 := o10.keep k27 (fun x hx hm => sb_b1_o10 x hx (List.mem_singleton.1 hm))
      replace hB := hB.new k27 (nw ge_b1)
      clear z19
      replace hb19 : Bk w34 b1 _ [.int .i64 (kyA c).1, .slice none 0 0, .slice none 0 0, .slice none 0 0, .slice none 0 0, .int .i64 0, .slice none 0 0, .slice none 0 0, .slice none 0 0, .slice none 0 0, .slice none 0 0, .slice none 0 0, .int .i64 0, .slice none 0 0, .slice none 0 0, .int .i64 0, .slice none 0 0, .slice none 0 0, v5] := hb19
      refine oga rfl rfl (a6 (bJ hfin Try.results9 rfl (ar dY bz hb19 rfl) rfl ?_))
      have eX : kpP c = ⟨(kyA c).1, bg, bf, 0, [], [], (kyV c).1⟩ := by
       unfold kpP; simp only; rw [if_neg (by omega)]
      obtain ⟨hd1, hd2⟩ := dX c
      have hok : kpOk c = true := by
       have hh := ic (prOk ⟨(kyA c).1, bg, bf, 0, [], [], (kyV c).1⟩) (prB ⟨(kyA c).1, bg, bf, 0, [], [], (kyV c).1⟩) c
       rw [show (decide ((bif prOk ⟨(kyA c).1, bg, bf, 0, [], [], (kyV c).1⟩ then (0 : Int) else 1) ≠ 0) || decide (¬ (bif prOk ⟨(kyA c).1, bg, bf, 0, [], [], (kyV c).1⟩ then prB ⟨(kyA c).1, bg, bf, 0, [], [], (kyV c).1⟩ else []) = c)) = false from by assumption] at hh
       unfold kpOk; rw [eX]; cases hq : (prOk ⟨(kyA c).1, bg, bf, 0, [], [], (kyV c).1⟩ && decide (prB ⟨(kyA c).1, bg, bf, 0, [], [], (kyV c).1⟩ = c)) <;> rw [hq] at hh <;> first | rfl | (cases hh; done)
      rw [show kgR c = ⟨(kyA c).1, bg, bf, 0, [], [], (kyV c).1⟩ from by unfold kgR; rw [hd1, hok, cond_true, ← hd2 hok]; exact eX, show kgE c = 0 from by unfold kgE; rw [hd1, hok]; rfl]
      exact ⟨_, _, _, _, _, _, _, _, _, _, _, _, _, _, _, rfl, a8 _ _ _ _, a8 _ _ _ _, a8 _ _ _ _, a8 _ _ _ _, a8 _ _ _ _, a8 _ _ _ _, a8 _ _ _ _, a8 _ _ _ _, a8 _ _ _ _, a8 _ _ _ _, a8 _ _ _ _, a8 _ _ _ _, a8 _ _ _ _, a8 _ _ _ _, o9.lo gw_o9, hB⟩
end Go.Proofs.Ytonchmcppekldaa.W
namespace Go.Eng
open Go Go.Byt
theorem bj {xs : List UInt8} (h : xs.length = 0) : xs = [] := List.eq_nil_of_length_eq_zero h
theorem ge {l : Lf} (h : leafOk l = true) (r : List UInt8) : rLeaf (leafB l ++ r) 0 = (l, r, 0) := by
 obtain ⟨h1, h2, h3, ⟨h4, h5, h6, h7⟩, h8⟩ := cF.1 h
 have e0 : leafB l ++ r = vec l.enc ++ (vec l.sig ++ (vec l.name ++ (be l.src 1 ++ ((if l.src = 3 then vec l.hash else []) ++ (vec l.sg ++ r))))) := by
   unfold leafB leafBare; simp only [List.append_assoc]
 have ea : rVec (leafB l ++ r) 0 = (l.enc, vec l.sig ++ (vec l.name ++ (be l.src 1 ++ ((if l.src = 3 then vec l.hash else []) ++ (vec l.sg ++ r)))), 0) := by rw [e0]; exact cB (by omega) _
 have eb : rLeafB (leafB l ++ r) 0 = (l.sig, vec l.name ++ (be l.src 1 ++ ((if l.src = 3 then vec l.hash else []) ++ (vec l.sg ++ r))), 0) := by unfold rLeafB; rw [ea]; exact cB (by omega) _
 have ec : rLeafC (leafB l ++ r) 0 = (l.name, be l.src 1 ++ ((if l.src = 3 then vec l.hash else []) ++ (vec l.sg ++ r)), 0) := by unfold rLeafC; rw [eb]; exact cB (by omega) _
 have ed : rLeafD (leafB l ++ r) 0 = (l.src, (if l.src = 3 then vec l.hash else []) ++ (vec l.sg ++ r), 0) := by
   unfold rLeafD; rw [ec]
   exact en (b := 8) (s := 1) (by decide) (by omega) (by omega) _ (fun h => by simp at h)
 have eh : rLeafH (leafB l ++ r) 0 = (l.hash, vec l.sg ++ r, 0) := by
   by_cases h3' : l.src = 3
   · rw [di (by rw [ed]; exact h3'), ed, if_pos h3']; exact cB (by omega) _
   · rw [dh (by rw [ed]; exact h3'), ed, if_neg h3', bj (show l.hash.length = 0 by omega)]; rfl
 have eg : rLeafG (leafB l ++ r) 0 = (l.sg, r, 0) := by unfold rLeafG; rw [eh]; exact cB (by omega) _
 unfold rLeaf
 rw [ea, eb, ec, ed, eh, eg]
theorem gl_back {l : Lf} (h : leafOk l = true) : glR (leafB l) = l ∧ glE (leafB l) = 0 := by
 have e := ge h []
 rw [List.append_nil] at e
 have hg : glOk (leafB l) = true := by
   unfold glOk; rw [e]
   simp only [h, Bool.and_true, decide_eq_true_eq, Bool.and_eq_true]
   exact ⟨rfl, trivial⟩
 unfold glR glE; rw [hg, e]; exact ⟨rfl, rfl⟩
theorem gp_back {p : Pk} (h : pkOk p = true) : gpR (pkB p) = p ∧ gpE (pkB p) = 0 := by
 obtain ⟨h1, h2, h3, h4⟩ := dI.1 h
 have e0 : pkB p = be 65537 4 ++ (vec p.init ++ (leafB p.leaf ++ (vec p.sg ++ []))) := by
   unfold pkB pkOffer; rw [show be 65537 4 = [0, 1, 0, 1] from by decide, List.append_nil]; simp only [List.append_assoc]
 have eh : gpH (pkB p) = (65537, vec p.init ++ (leafB p.leaf ++ (vec p.sg ++ [])), 0) := by
   unfold gpH; rw [e0]
   exact en (b := 32) (s := 4) (by decide) (by decide) (by decide) _ (fun h => by simp at h)
 have ei : gpI (pkB p) = (p.init, leafB p.leaf ++ (vec p.sg ++ []), 0) := by unfold gpI; rw [eh]; exact cB (by omega) _
 have el : gpL (pkB p) = (p.leaf, vec p.sg ++ [], 0) := by unfold gpL; rw [ei]; exact ge h2 _
 have eg : gpG (pkB p) = (p.sg, [], 0) := by unfold gpG; rw [el]; exact cB (by omega) _
 have ep : gpP (pkB p) = p := by unfold gpP; rw [ei, el, eg]
 have hg : gpOk (pkB p) = true := by
   unfold gpOk; rw [ep, eg]
   simp only [h, Bool.and_true, decide_eq_true_eq, Bool.and_eq_true]
   exact ⟨rfl, trivial⟩
 unfold gpR gpE; rw [hg, ep]; exact ⟨rfl, rfl⟩
theorem fX {l : Lf} (h : lfBare l = true) : l = bf := by
 obtain ⟨h1, h2⟩ := dp.1 h
 obtain ⟨a, b, c, d, e, f⟩ := l
 dsimp only at h1 h2
 rw [bj (show a.length = 0 by omega), bj (show b.length = 0 by omega), bj (show c.length = 0 by omega), bj (show e.length = 0 by omega), bj (show f.length = 0 by omega), h2]
 rfl
theorem gU {p : Pk} (h : pkBare p = true) : p = bg := by
 obtain ⟨h1, h2⟩ := fm.1 h
 obtain ⟨a, b, c⟩ := p
 dsimp only at h1 h2
 rw [bj (show a.length = 0 by omega), bj (show c.length = 0 by omega), fX h2]
 rfl
theorem j3 {c : List UInt8} {x : Pr} (hk : (kyA c).1 = 1 ∨ (kyA c).1 = 2 ∨ (kyA c).1 = 3 ∨ (kyA c).1 = 4) (h : kyP c = x) : kpP c = x := by
 unfold kpP; simp only; rw [if_pos hk]; exact h
theorem kp_back {x : Pr} (h : prOk x = true) : kpP (prB x) = x := by
 have hb : prBare x = true := by unfold prOk at h; exact (Bool.and_eq_true_iff.1 h).1
 obtain ⟨b1, b2, b3, b4, b6⟩ := fk.1 hb
 by_cases k1 : x.kind = 1
 · have hp := fj h k1
   have hA : kyA (prB x) = (1, vec (pkB x.pk), 0) := by
     refine fO ?_ (by decide) (by decide)
     unfold prB prX; rw [k1, if_pos rfl, dJ (.inl rfl)]
   have hV : kyV (prB x) = (pkB x.pk, [], 0) := by unfold kyV; rw [hA]; exact cz (by have := jZ hp; omega) rfl
   refine j3 (.inl (by rw [hA])) ?_
   rw [(lR (by rw [hA])).1, hV, (gp_back hp).1]
   have e2 := fX (b2.resolve_left (by omega)); have e3 := b3.resolve_left (by omega)
   obtain ⟨k, pk, lf, ix, psk, nonce, enc⟩ := x
   dsimp only at *
   rw [k1, e2, e3, bj (show psk.length = 0 by omega), bj (show nonce.length = 0 by omega), bj (show enc.length = 0 by omega)]
 · by_cases k2 : x.kind = 2
   · have hp := (fi h k2).1
     have hA : kyA (prB x) = (2, vec (leafB x.lf), 0) := by
       refine fO ?_ (by decide) (by decide)
       unfold prB prX; rw [k2, if_neg (by decide), if_pos rfl, dJ (.inr (.inl rfl))]
     have hV : kyV (prB x) = (leafB x.lf, [], 0) := by unfold kyV; rw [hA]; exact cz (by have := df hp; omega) rfl
     refine j3 (.inr (.inl (by rw [hA]))) ?_
     rw [(lQ (by rw [hA])).1, hV, (gl_back hp).1]
     have e1 := gU (b1.resolve_left (by omega)); have e3 := b3.resolve_left (by omega)
     obtain ⟨k, pk, lf, ix, psk, nonce, enc⟩ := x
     dsimp only at *
     rw [k2, e1, e3, bj (show psk.length = 0 by omega), bj (show nonce.length = 0 by omega), bj (show enc.length = 0 by omega)]
   · have e1 := gU (b1.resolve_left k1); have e2 := fX (b2.resolve_left k2)
     by_cases k3 : x.kind = 3
     · have hp := lD h k3
       have hA : kyA (prB x) = (3, be x.ix 4, 0) := by
         refine fO ?_ (by decide) (by decide)
         unfold prB prX; rw [k3, if_neg (by decide), if_neg (by decide), if_pos rfl, dJ (.inr (.inr (.inl rfl)))]
       have hN : kyN (prB x) = (x.ix, [], 0) := by
         unfold kyN; rw [hA]
         have := en (b := 32) (n := x.ix) (s := 4) (by decide) hp.1 (Int.lt_trans hp.2 (by decide)) [] (fun h => by simp at h)
         rw [List.append_nil] at this; exact this
       refine j3 (.inr (.inr (.inl (by rw [hA])))) ?_
       rw [(lP (by rw [hA])).1, hN]
       obtain ⟨k, pk, lf, ix, psk, nonce, enc⟩ := x
       dsimp only at *
       rw [k3, e1, e2, bj (show psk.length = 0 by omega), bj (show nonce.length = 0 by omega), bj (show enc.length = 0 by omega)]
     · have e3 := b3.resolve_left k3
       by_cases k4 : x.kind = 4
       · have hp := jX h k4
         have hA : kyA (prB x) = (4, vec x.psk ++ vec x.nonce, 0) := by
           refine fO ?_ (by decide) (by decide)
           unfold prB prX; rw [k4, if_neg (by decide), if_neg (by decide), if_neg (by decide), if_pos rfl, dJ (.inr (.inr (.inr (.inl rfl))))]
         have hV : kyV (prB x) = (x.psk, vec x.nonce, 0) := by unfold kyV; rw [hA]; exact cB (by omega) _
         have hW : kyW (prB x) = (x.nonce, [], 0) := by unfold kyW; rw [hV]; exact cz (by omega) rfl
         refine j3 (.inr (.inr (.inr (by rw [hA])))) ?_
         rw [(lO (by rw [hA])).1, hV, hW]
         obtain ⟨k, pk, lf, ix, psk, nonce, enc⟩ := x
         dsimp only at *
         rw [k4, e1, e2, e3, bj (show enc.length = 0 by omega)]
       · obtain ⟨k6, hp⟩ := fh h k1 k2 k3 k4
         have hA : kyA (prB x) = (6, vec x.enc, 0) := by
           refine fO ?_ (by decide) (by decide)
           unfold prB prX; rw [k6, if_neg (by decide), if_neg (by decide), if_neg (by decide), if_neg (by decide), dJ (.inr (.inr (.inr (.inr rfl))))]
         have hV : kyV (prB x) = (x.enc, [], 0) := by unfold kyV; rw [hA]; exact cz (by omega) rfl
         have : kpP (prB x) = ⟨(kyA (prB x)).1, bg, bf, 0, [], [], (kyV (prB x)).1⟩ := by
           unfold kpP; simp only; rw [if_neg (by rw [hA]; simp)]
         rw [this, hA, hV]
         obtain ⟨k, pk, lf, ix, psk, nonce, enc⟩ := x
         dsimp only at *
         rw [k6, e1, e2, e3, bj (show psk.length = 0 by omega), bj (show nonce.length = 0 by omega)]
theorem li {x : Pr} (h : prOk x = true) : kgR (prB x) = x ∧ kgE (prB x) = 0 := by
 obtain ⟨d1, d2⟩ := dX (prB x)
 have hb := kp_back h
 have hok : kpOk (prB x) = true := by
   unfold kpOk; rw [hb, h]; simp
 unfold kgR kgE
 rw [d1, hok, cond_true, cond_true, ← d2 hok]; exact ⟨hb, rfl⟩
theorem n8 {c : List UInt8} (h : kgE c = 0) : prOk (kgR c) = true ∧ prB (kgR c) = c := by
 have hg : kgOk c = true := by
   unfold kgE at h
   cases hg : kgOk c with
   | true => rfl
   | false => rw [hg] at h; exact absurd h (by decide)
 obtain ⟨d1, d2⟩ := dX c
 rw [d1] at hg
 unfold kgR; rw [d1, hg, cond_true, ← d2 hg]
 unfold kpOk at hg
 obtain ⟨g1, g2⟩ := Bool.and_eq_true_iff.1 hg
 exact ⟨g1, of_decide_eq_true g2⟩
abbrev It := List UInt8 × Pr
def zeroN (x : Pr) : Nat := x.psk.length + x.nonce.length + x.enc.length + x.lf.enc.length + x.lf.sig.length + x.lf.name.length + x.lf.hash.length + x.lf.sg.length + (x.pk.init.length + x.pk.sg.length + x.pk.leaf.enc.length + x.pk.leaf.sig.length + x.pk.leaf.name.length + x.pk.leaf.hash.length + x.pk.leaf.sg.length)
def zeroP (x : Pr) : Bool := decide (zeroN x = 0 ∧ x.kind = 0 ∧ x.ix = 0 ∧ x.lf.src = 0 ∧ x.pk.leaf.src = 0)
theorem mr {x : Pr} (h : zeroP x = true) : x = lF := by
 unfold zeroP at h
 obtain ⟨h1, h2, h3, h4, h5⟩ := of_decide_eq_true h
 unfold zeroN at h1
 have e1 : pkBare x.pk = true := fm.2 ⟨by omega, dp.2 ⟨by omega, h5⟩⟩
 have e2 : lfBare x.lf = true := dp.2 ⟨by omega, h4⟩
 obtain ⟨k, pk, lf, ix, psk, nonce, enc⟩ := x
 dsimp only at *
 rw [h2, h3, gU e1, fX e2, bj (show psk.length = 0 by omega), bj (show nonce.length = 0 by omega), bj (show enc.length = 0 by omega)]
 rfl
theorem zeroP_0 : zeroP lF = true := by decide
def itOk (x : It) : Bool := (decide (x.1.length = 32) && zeroP x.2) || (decide (x.1.length = 0) && prOk x.2)
def itB (x : It) : List UInt8 := if x.1.length = 32 then 2 :: vec x.1 else 1 :: vec (prB x.2)
theorem fp {x : It} (h : itOk x = true) : (x.1.length = 32 ∧ x.2 = lF) ∨ (x.1 = [] ∧ prOk x.2 = true) := by
 unfold itOk at h
 rw [Bool.or_eq_true, Bool.and_eq_true, Bool.and_eq_true, decide_eq_true_eq, decide_eq_true_eq] at h
 rcases h with ⟨h1, h2⟩ | ⟨h1, h2⟩
 · exact .inl ⟨h1, mr h2⟩
 · exact .inr ⟨bj h1, h2⟩
theorem nc {r : List UInt8} (h : r.length = 32) : itOk (r, lF) = true := by
 unfold itOk; rw [decide_eq_true h, zeroP_0]; rfl
theorem nb {x : Pr} (h : prOk x = true) : itOk ([], x) = true := by
 unfold itOk; rw [h]; simp
theorem pkB_le {p : Pk} (h : pkOk p = true) : (pkB p).length ≤ 400 := by
 obtain ⟨h1, h2, h3, h4⟩ := dI.1 h
 obtain ⟨g1, g2, g3, ⟨g4, g5, g6, g7⟩, g8⟩ := cF.1 h2
 have a1 := av p.init.length; have a2 := av p.sg.length
 have b1 := av p.leaf.enc.length; have b2 := av p.leaf.sig.length; have b3 := av p.leaf.name.length; have b4 := av p.leaf.sg.length
 unfold pkB pkOffer leafB leafBare vec
 rw [if_neg (by omega)]
 simp only [List.length_append, List.length_cons, List.length_nil, bi]; omega
theorem nX {l : Lf} (h : leafOk l = true) : (leafB l).length ≤ 400 := df h
theorem jY {x : Pr} (h : prOk x = true) : (prB x).length ≤ 500 := by
 unfold prB prX
 by_cases k1 : x.kind = 1
 · rw [if_pos k1]; have := pkB_le (fj h k1); have e := av (pkB x.pk).length; unfold vec; simp only [List.length_append, List.length_cons, List.length_nil]; omega
 · by_cases k2 : x.kind = 2
   · rw [if_neg k1, if_pos k2]; have := nX (fi h k2).1; have e := av (leafB x.lf).length; unfold vec; simp only [List.length_append, List.length_cons, List.length_nil]; omega
   · by_cases k3 : x.kind = 3
     · rw [if_neg k1, if_neg k2, if_pos k3]; simp only [List.length_append, List.length_cons, List.length_nil, bi]; omega
     · by_cases k4 : x.kind = 4
       · rw [if_neg k1, if_neg k2, if_neg k3, if_pos k4]; have := jX h k4; have e := av x.psk.length; have e2 := av x.nonce.length; unfold vec; simp only [List.length_append, List.length_cons, List.length_nil]; omega
       · rw [if_neg k1, if_neg k2, if_neg k3, if_neg k4]; have := fh h k1 k2 k3 k4; have e := av x.enc.length; unfold vec; simp only [List.length_append, List.length_cons, List.length_nil]; omega
theorem itB_len {x : It} (h : itOk x = true) : (itB x).length ≤ 510 := by
 unfold itB
 rcases fp h with ⟨h1, _⟩ | ⟨h1, h2⟩
 · rw [if_pos h1]; have e := av x.1.length; unfold vec; simp only [List.length_append, List.length_cons]; omega
 · rw [if_neg (by rw [h1]; simp)]; have := jY h2; have e := av (prB x.2).length; unfold vec; simp only [List.length_append, List.length_cons]; omega
theorem j8 (x : It) : 0 < (itB x).length := by
 unfold itB; split <;> simp
theorem dz : ∀ {xs : List It}, xs.all itOk = true → (xs.flatMap itB).length ≤ xs.length * 510
 | [], _ => by simp
 | x :: xs, h => by
   rw [List.all_cons, Bool.and_eq_true] at h
   have h1 := itB_len h.1
   have h2 := dz h.2
   rw [List.flatMap_cons, List.length_append, List.length_cons]; omega
def bdOk (xs : List It) (p : List UInt8) : Bool := decide (xs.length ≤ 100) && decide (p.length ≤ 20000) && xs.all itOk
def bdT (xs : List It) (p : List UInt8) : List UInt8 := vec (xs.flatMap itB) ++ vec p
def bdE (xs : List It) (p : List UInt8) : Int := bif bdOk xs p then 0 else 1
def bdB (xs : List It) (p : List UInt8) : List UInt8 := bif bdOk xs p then bdT xs p else []
theorem dU {xs : List It} {p : List UInt8} : bdOk xs p = true ↔ xs.length ≤ 100 ∧ p.length ≤ 20000 ∧ xs.all itOk = true := by
 unfold bdOk; simp only [Bool.and_eq_true, decide_eq_true_eq, and_assoc]
theorem bd_at {xs : List It} {p : List UInt8} {i : Nat} {x : It} (h : xs[i]? = some x) (hx : itOk x = false) : bdOk xs p = false := by
 have : xs.all itOk = false := by
   rw [List.all_eq_false]
   exact ⟨x, List.mem_of_getElem? h, by simp [hx]⟩
 unfold bdOk; rw [this]; simp
theorem ny {xs : List It} {p : List UInt8} (h : 100 < xs.length ∨ 20000 < p.length) : bdOk xs p = false := by
 cases hb : bdOk xs p with
 | false => rfl
 | true => have := dU.1 hb; omega
theorem gD {xs : List It} {i : Nat} {x : It} (h : xs[i]? = some x) : (xs.take (i + 1)).flatMap itB = (xs.take i).flatMap itB ++ itB x := by
 rw [cQ h]; simp
theorem j5 {xs : List It} {i : Nat} {x : It} (h : xs[i]? = some x) (ha : (xs.take i).all itOk = true) (hx : itOk x = true) : (xs.take (i + 1)).all itOk = true := by
 rw [cQ h, List.all_append, ha]; simp [hx]
def itK (rest : List UInt8) (e : Int) := rNum 8 rest e 1
def itV (rest : List UInt8) (e : Int) := rVec (itK rest e).2.1 (itK rest e).2.2
def itX (rest : List UInt8) (e : Int) : It := if (itK rest e).1 = 1 then ([], kgR (itV rest e).1) else ((itV rest e).1, lF)
def nf (rest : List UInt8) (e : Int) : It × List UInt8 × Int := (itX rest e, (itV rest e).2)
def itG (rest : List UInt8) (e : Int) : Bool := decide ((itV rest e).2.2 = 0) && decide ((if (itK rest e).1 = 1 then kgE (itV rest e).1 else 0) = 0) && (decide ((itK rest e).1 = 1) || decide ((itK rest e).1 = 2) && decide ((itV rest e).1.length = 32))
theorem lj (rest : List UInt8) (e : Int) : (itV rest e).2.1.length ≤ rest.length := Nat.le_trans (bS _ _) (dH 8 rest e 1)
theorem kO {rest : List UInt8} {e : Int} (h : (itV rest e).2.2 = 0) : e = 0 ∧ rest = be (itK rest e).1 1 ++ (vec (itV rest e).1 ++ (itV rest e).2.1) ∧ 0 ≤ (itK rest e).1 ∧ (itK rest e).1 < 256 := by
 obtain ⟨h1, h2⟩ := cJ (show (rVec (itK rest e).2.1 (itK rest e).2.2).2.2 = 0 from h)
 have h' : rNum 8 rest e ((1 : Nat) : Int) = ((itK rest e).1, (itK rest e).2.1, 0) := Prod.ext rfl (Prod.ext rfl h1)
 obtain ⟨g1, g2, g3, g4⟩ := gA (by decide) h'
 have h2' : (itK rest e).2.1 = vec (itV rest e).1 ++ (itV rest e).2.1 := h2
 exact ⟨g1, by rw [← h2']; exact g2, g3, by simpa using g4⟩
theorem ne {rest : List UInt8} {e : Int} (h : itG rest e = true) : e = 0 ∧ rest = itB (itX rest e) ++ (itV rest e).2.1 ∧ itOk (itX rest e) = true ∧ (itV rest e).2.2 = 0 := by
 unfold itG at h
 rw [Bool.and_eq_true, Bool.and_eq_true, decide_eq_true_eq, decide_eq_true_eq] at h
 obtain ⟨⟨h1, h2⟩, h3⟩ := h
 obtain ⟨g1, g2, _⟩ := kO h1
 refine ⟨g1, ?_, ?_, h1⟩
 · by_cases k1 : (itK rest e).1 = 1
   · rw [if_pos k1] at h2
     unfold itX itB
     rw [if_pos k1, if_neg (by simp), (n8 h2).2]
     rw [k1] at g2
     exact g2
   · rw [decide_eq_false k1, Bool.false_or, Bool.and_eq_true, decide_eq_true_eq, decide_eq_true_eq] at h3
     unfold itX itB
     rw [if_neg k1, if_pos h3.2]
     rw [h3.1] at g2
     exact g2
 · by_cases k1 : (itK rest e).1 = 1
   · rw [if_pos k1] at h2
     unfold itX
     rw [if_pos k1]; exact nb (n8 h2).1
   · rw [decide_eq_false k1, Bool.false_or, Bool.and_eq_true, decide_eq_true_eq, decide_eq_true_eq] at h3
     unfold itX
     rw [if_neg k1]; exact nc h3.2
theorem gu {x : It} (h : itOk x = true) (r : List UInt8) : nf (itB x ++ r) 0 = (x, r, 0) ∧ itG (itB x ++ r) 0 = true := by
 rcases fp h with ⟨h1, h2⟩ | ⟨h1, h2⟩
 · have e0 : itB x ++ r = be 2 1 ++ (vec x.1 ++ r) := by unfold itB; rw [if_pos h1]; rfl
   have ek : itK (itB x ++ r) 0 = (2, vec x.1 ++ r, 0) := by
     unfold itK; rw [e0]; exact en (b := 8) (s := 1) (by decide) (by decide) (by decide) _ (fun h => by simp at h)
   have ev : itV (itB x ++ r) 0 = (x.1, r, 0) := by unfold itV; rw [ek]; exact cB (by omega) _
   have ex : itX (itB x ++ r) 0 = x := by unfold itX; rw [ek, ev, if_neg (show ¬ (2 : Int) = 1 by decide)]; exact Prod.ext rfl h2.symm
   refine ⟨by unfold nf; rw [ex, ev], ?_⟩
   unfold itG; rw [ek, ev]; simp [h1]
 · have e0 : itB x ++ r = be 1 1 ++ (vec (prB x.2) ++ r) := by unfold itB; rw [if_neg (by rw [h1]; simp)]; rfl
   have ek : itK (itB x ++ r) 0 = (1, vec (prB x.2) ++ r, 0) := by
     unfold itK; rw [e0]; exact en (b := 8) (s := 1) (by decide) (by decide) (by decide) _ (fun h => by simp at h)
   have ev : itV (itB x ++ r) 0 = (prB x.2, r, 0) := by unfold itV; rw [ek]; exact cB (by have := jY h2; omega) _
   have ex : itX (itB x ++ r) 0 = x := by unfold itX; rw [ek, ev, if_pos rfl]; exact Prod.ext h1.symm (li h2).1
   refine ⟨by unfold nf; rw [ex, ev], ?_⟩
   unfold itG; rw [ek, ev]; simp [(li h2).2]
def itL : Nat → List UInt8 → Int → List It × List UInt8 × Int
 | 0, rest, e => ([], rest, e)
 | n + 1, rest, e =>
   if 0 < rest.length ∧ e = 0 then
     let t := nf rest e
     let l := itL n t.2.1 t.2.2
     (t.1 :: l.1, l.2)
   else ([], rest, e)
theorem j7 : ∀ (xs : List It) (n : Nat), (xs.flatMap itB).length < n → xs.all itOk = true → itL n (xs.flatMap itB) 0 = (xs, [], 0)
 | [], n, _, _ => by
   cases n with
   | zero => rfl
   | succ n => rw [itL, if_neg (by simp)]; rfl
 | x :: xs, n, hn, hs => by
   cases n with
   | zero => omega
   | succ n =>
     have hp := j8 x
     rw [List.flatMap_cons] at hn ⊢
     rw [List.length_append] at hn
     rw [List.all_cons, Bool.and_eq_true] at hs
     rw [itL, if_pos ⟨by rw [List.length_append]; omega, rfl⟩, (gu hs.1 _).1]
     dsimp only
     rw [j7 xs n (by omega) hs.2]
theorem nd {n : Nat} {rest : List UInt8} {e : Int} (hr : 0 < rest.length) (he : e = 0) : itL (n + 1) rest e = ((nf rest e).1 :: (itL n (nf rest e).2.1 (nf rest e).2.2).1, (itL n (nf rest e).2.1 (nf rest e).2.2).2) := by
 rw [itL, if_pos ⟨hr, he⟩]
theorem itL_end (n : Nat) {rest : List UInt8} {e : Int} (h : ¬ (0 < rest.length ∧ e = 0)) : itL n rest e = ([], rest, e) := by
 cases n with
 | zero => rfl
 | succ n => rw [itL, if_neg h]
theorem gE {rest : List UInt8} {e : Int} (hr : 0 < rest.length) (h : (itV rest e).2.2 = 0) : (itV rest e).2.1.length < rest.length := by
 obtain ⟨_, h2, _⟩ := kO h
 have := congrArg List.length h2
 have hp := l7 (itV rest e).1
 rw [List.length_append, List.length_append, bi] at this
 omega
def ItJ (lb : List UInt8) (xs : List It) (rest : List UInt8) (e : Int) : Prop := (∃ n, rest.length + (if e = 0 then 1 else 0) ≤ n ∧ itL (lb.length + 1) lb 0 = (xs ++ (itL n rest e).1, (itL n rest e).2)) ∧ xs.length + rest.length ≤ lb.length + (if e = 0 then 0 else 1)
theorem mg (lb : List UInt8) : ItJ lb [] lb 0 := ⟨⟨lb.length + 1, by simp, by simp⟩, by simp⟩
theorem kL {lb rest : List UInt8} {xs : List It} {e : Int} (h : ItJ lb xs rest e) (hr : 0 < rest.length) (he : e = 0) : ItJ lb (xs ++ [itX rest e]) (itV rest e).2.1 (itV rest e).2.2 := by
 obtain ⟨⟨n, hn, h⟩, h2⟩ := h
 rw [if_pos he] at hn h2
 have hv := lj rest e
 refine ⟨?_, ?_⟩
 · cases n with
   | zero => omega
   | succ n =>
     rw [nd hr he] at h
     refine ⟨n, ?_, by rw [h]; simp [nf]⟩
     by_cases h0 : (itV rest e).2.2 = 0
     · rw [if_pos h0]; have := gE hr h0; omega
     · rw [if_neg h0]; omega
 · rw [List.length_append, List.length_singleton]
   by_cases h0 : (itV rest e).2.2 = 0
   · rw [if_pos h0]; have := gE hr h0; omega
   · rw [if_neg h0]; omega
theorem itJ_end {lb rest : List UInt8} {xs : List It} {e : Int} (h : ItJ lb xs rest e) (hc : ¬ (0 < rest.length ∧ e = 0)) : (itL (lb.length + 1) lb 0).1 = xs := by
 obtain ⟨⟨n, _, h⟩, _⟩ := h
 rw [itL_end n hc] at h
 rw [h]; simp
def itM (rest : List UInt8) (e : Int) : Nat := rest.length + (if e = 0 then 1 else 0)
theorem kK {rest : List UInt8} {e : Int} (hr : 0 < rest.length) (he : e = 0) : itM (itV rest e).2.1 (itV rest e).2.2 < itM rest e := by
 have hv := lj rest e
 unfold itM
 rw [if_pos he]
 by_cases h0 : (itV rest e).2.2 = 0
 · rw [if_pos h0]; have := gE hr h0; omega
 · rw [if_neg h0]; omega
def bgL (c : List UInt8) := rVec c 0
def bgP (c : List UInt8) := rVec (bgL c).2.1 (bgL c).2.2
def bgX (c : List UInt8) : List It := (itL ((bgL c).1.length + 1) (bgL c).1 0).1
def bgOk (c : List UInt8) : Bool := bdOk (bgX c) (bgP c).1 && decide (bdB (bgX c) (bgP c).1 = c)
def bgR (c : List UInt8) : List It := bif bgOk c then bgX c else []
def bgQ (c : List UInt8) : List UInt8 := bif bgOk c then (bgP c).1 else []
def bgE (c : List UInt8) : Int := bif bgOk c then 0 else 21
theorem nv {c : List UInt8} (h : bgOk c = true) : (bgL c).1 = (bgX c).flatMap itB ∧ (bgX c).all itOk = true ∧ bgP c = ((bgP c).1, [], 0) := by
 unfold bgOk at h
 rw [Bool.and_eq_true, decide_eq_true_eq] at h
 obtain ⟨hw, hb⟩ := h
 obtain ⟨X, hX⟩ : ∃ X, X = bgX c := ⟨_, rfl⟩
 obtain ⟨p, hp⟩ : ∃ p, p = (bgP c).1 := ⟨_, rfl⟩
 rw [← hX, ← hp] at hw hb
 obtain ⟨h1, h2, h3⟩ := dU.1 hw
 have hl := dz h3
 have hc : c = vec (X.flatMap itB) ++ (vec p ++ []) := by
   rw [List.append_nil, ← hb]; unfold bdB bdT; rw [hw]; rfl
 have ha : bgL c = (X.flatMap itB, vec p ++ [], 0) := by unfold bgL; rw [hc]; exact cB (by omega) _
 have hb2 : bgP c = (p, [], 0) := by unfold bgP; rw [ha]; exact cB (by omega) _
 rw [← hX, ← hp]
 exact ⟨by rw [ha], h3, hb2⟩
theorem kI : ∀ {xs X : List It} {rest : List UInt8}, xs.all itOk = true → X.all itOk = true → xs.flatMap itB ++ rest = X.flatMap itB → 0 < rest.length → ∃ x X', rest = itB x ++ X' ∧ itOk x = true
 | [], X, rest, _, hX, h, hr => by
   cases X with
   | nil => rw [show rest = [] from h] at hr; simp at hr
   | cons x X' =>
     rw [List.all_cons, Bool.and_eq_true] at hX
     exact ⟨x, X'.flatMap itB, by rw [show rest = _ from h, List.flatMap_cons], hX.1⟩
 | y :: xs, X, rest, hxs, hX, h, hr => by
   rw [List.all_cons, Bool.and_eq_true] at hxs
   rw [List.flatMap_cons, List.append_assoc] at h
   cases X with
   | nil =>
     have := congrArg List.length h
     have hp := j8 y
     simp only [List.length_append, List.flatMap_nil, List.length_nil] at this; omega
   | cons z Z =>
     rw [List.all_cons, Bool.and_eq_true] at hX
     rw [List.flatMap_cons] at h
     have a := (gu hxs.1 (xs.flatMap itB ++ rest)).1
     rw [h, (gu hX.1 (Z.flatMap itB)).1] at a
     have e2 : Z.flatMap itB = xs.flatMap itB ++ rest := congrArg (fun q => q.2.1) a
     exact kI hxs.2 hX.2 e2.symm hr
def ItD (c : List UInt8) (xs : List It) (ok : Bool) (rest : List UInt8) (e : Int) : Prop :=
 (ok = true → e = 0 ∧ (bgL c).1 = xs.flatMap itB ++ rest ∧ xs.all itOk = true ∧ rEnd (bgP c).2.1 (bgP c).2.2 = 0) ∧ (ok = false → bgOk c = false)
theorem mh (c : List UInt8) : ItD c [] (decide (rEnd (bgP c).2.1 (bgP c).2.2 = 0)) (bgL c).1 0 := by
 refine ⟨fun h => ⟨rfl, by simp, rfl, of_decide_eq_true h⟩, fun h => ?_⟩
 cases hb : bgOk c with
 | false => rfl
 | true =>
   have := (nv hb).2.2
   rw [this] at h
   exact absurd (of_decide_eq_false h) (by simp [rEnd])
theorem kM {c : List UInt8} {xs : List It} {rest : List UInt8} {e : Int} (h : ItD c xs true rest e) (hr : 0 < rest.length) : ItD c (xs ++ [itX rest e]) (itG rest e) (itV rest e).2.1 (itV rest e).2.2 := by
 obtain ⟨h1, h2, h3, h4⟩ := h.1 rfl
 refine ⟨fun hg => ?_, fun hg => ?_⟩
 · obtain ⟨g1, g2, g3, g4⟩ := ne hg
   refine ⟨g4, ?_, ?_, h4⟩
   · rw [h2, List.flatMap_append, List.append_assoc]; congr 1
     simpa using g2
   · rw [List.all_append, h3]; simp [g3]
 · cases hb : bgOk c with
   | false => rfl
   | true =>
     obtain ⟨i1, i2, i3⟩ := nv hb
     rw [h2] at i1
     obtain ⟨x, X', e1, e2⟩ := kI h3 i2 i1 hr
     subst h1
     rw [e1, (gu e2 X').2] at hg; cases hg
theorem itD_end {c : List UInt8} {xs : List It} {ok : Bool} {rest : List UInt8} {e : Int} (h : ItD c xs ok rest e) (hc : ¬ (ok = true ∧ 0 < rest.length)) : bgOk c = (ok && bdOk xs (bgP c).1) ∧ (ok = true → bgX c = xs) := by
 cases ok with
 | false => exact ⟨by rw [h.2 rfl]; rfl, fun h => by cases h⟩
 | true =>
   obtain ⟨h1, h2, h3, h4⟩ := h.1 rfl
   have hr : rest = [] := List.eq_nil_of_length_eq_zero (by have : ¬ 0 < rest.length := fun h => hc ⟨rfl, h⟩; omega)
   rw [hr, List.append_nil] at h2
   have hx : bgX c = xs := by unfold bgX; rw [h2, j7 xs _ (by omega) h3]
   refine ⟨?_, fun _ => hx⟩
   unfold bgOk
   rw [hx, Bool.true_and]
   cases hw : bdOk xs (bgP c).1 with
   | false => rfl
   | true =>
     rw [Bool.true_and, decide_eq_true_eq]
     obtain ⟨q1, q2⟩ := (dn _ _).1 h4
     obtain ⟨a1, a2⟩ := cJ (show (rVec (bgL c).2.1 (bgL c).2.2).2.2 = 0 from q2)
     obtain ⟨_, b2⟩ := cJ (show (rVec c 0).2.2 = 0 from a1)
     have b3 : c = vec (bgL c).1 ++ (bgL c).2.1 := b2
     have a3 : (bgL c).2.1 = vec (bgP c).1 ++ (bgP c).2.1 := a2
     rw [q1, List.append_nil] at a3
     unfold bdB bdT
     rw [hw, cond_true, ← h2, ← a3]; exact b3.symm
theorem bg_back {xs : List It} {p : List UInt8} (h : bdOk xs p = true) : bgR (bdB xs p) = xs ∧ bgQ (bdB xs p) = p ∧ bgE (bdB xs p) = 0 := by
 obtain ⟨h1, h2, h3⟩ := dU.1 h
 have hl := dz h3
 have hc : bdB xs p = vec (xs.flatMap itB) ++ (vec p ++ []) := by rw [List.append_nil]; unfold bdB bdT; rw [h]; rfl
 have ha : bgL (bdB xs p) = (xs.flatMap itB, vec p ++ [], 0) := by unfold bgL; rw [hc]; exact cB (by omega) _
 have hb2 : bgP (bdB xs p) = (p, [], 0) := by unfold bgP; rw [ha]; exact cB (by omega) _
 have hx : bgX (bdB xs p) = xs := by unfold bgX; rw [ha, j7 xs _ (by dsimp only; omega) h3]
 have hok : bgOk (bdB xs p) = true := by unfold bgOk; rw [hx, hb2, h]; simp
 unfold bgR bgQ bgE
 rw [hok, hx, hb2]; exact ⟨rfl, rfl, rfl⟩
theorem nu {c : List UInt8} (h : bgE c = 0) : bdOk (bgR c) (bgQ c) = true ∧ bdB (bgR c) (bgQ c) = c := by
 unfold bgE at h
 cases hg : bgOk c with
 | false => rw [hg] at h; exact absurd h (by decide)
 | true =>
   have h1 := hg
   unfold bgOk at h1
   rw [Bool.and_eq_true, decide_eq_true_eq] at h1
   unfold bgR bgQ
   rw [hg]; exact h1
end Go.Eng
