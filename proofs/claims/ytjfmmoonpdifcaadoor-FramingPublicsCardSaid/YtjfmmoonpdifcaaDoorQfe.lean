/- Contracts and laws, part 5 of 6: what each function of the program and of the reference computes, shown once. -/
import Derived.Test.YtjfmmoonpdifcaaDoorQfd
set_option maxRecDepth 100000
set_option maxHeartbeats 4000000
set_option linter.unusedVariables false
set_option linter.unusedSimpArgs false
namespace Go.Proofs.YtjfmmoonpdifcaaDoor.W
open Go Go.Eng Go.Byt
theorem du {c : List UInt8} (h1 : (rFr c).1 = 1) (h2 : ¬ ((rT c).1.length : Int) = 32) : gpOkP c = false := by
 unfold gpOkP; rw [decide_eq_true h1, decide_eq_false h2]; simp
theorem dt {c : List UInt8} (h : ((decide ((rH c).1 = 65537) && decide (rEnd (rT c).2.1 (rT c).2.2 = 0)) && sOk (rX c)) = false) : gpOkP c = false := by
 unfold gpOkP; rw [h]; rfl
theorem eJ {c : List UInt8} (h : ((decide ((rH c).1 = 65537) && decide (rEnd (rT c).2.1 (rT c).2.2 = 0)) && sOk (rX c)) = true) (h1 : ((rT c).1.length : Int) = 32) : gpOkP c = true := by
 unfold gpOkP; rw [h, decide_eq_true h1]; simp
theorem eI {c : List UInt8} (h : ((decide ((rH c).1 = 65537) && decide (rEnd (rT c).2.1 (rT c).2.2 = 0)) && sOk (rX c)) = true) (h1 : ¬ (rFr c).1 = 1) : gpOkP c = true := by
 unfold gpOkP; rw [h, decide_eq_false h1]; rfl
theorem dL {w : World} {lo : Nat} {v : Value} {xs zs : List UInt8} (h : OwnB w lo v xs) (e : xs = zs) : OwnB w lo v zs := e ▸ h
theorem iG (v : Value) (c : List UInt8) (w : World) (hv : RdB w v c) (hcl : c.length ≤ 140737488351232) : Rets Tryd.prog 10 [v] w (fun r w' => ∃ g m b sg cf tg, r = .tuple #[.agg [g, .int .i64 (gpX c).ep, .int .i64 (gpX c).fr, .int .i64 (gpX c).lf, m, .int .i64 (gpX c).kd, b, .int .i64 (gpX c).wi, sg, cf].toArray, tg, .int .i64 (gpF c)] ∧ OwnB w' w.heap.size g (gpX c).gs ∧ OwnB w' w.heap.size m (gpX c).ms ∧ OwnB w' w.heap.size b (gpX c).bs ∧ OwnB w' w.heap.size sg (gpX c).ss ∧ OwnB w' w.heap.size cf (gpX c).cs ∧ OwnB w' w.heap.size tg (gpT c) ∧ Keep [] w w') := by
  have hB : Keep [] w w := Keep.refl _ _
  obtain ⟨n1, n2, n3, n4, n5, n6, n7, n8, n9, n10⟩ := fpLen c
  refine ad Tryd.func10 rfl (by decide) Tryd.ntmps10 rfl (fun fin _ hfin => ?_)
  refine aY ?_
  refine aX ?_
  refine ah (cI bM) rfl ?_
  rintro _ w1 ⟨b1, rfl, eb1, hb1, k1, z1⟩
  have ge_b1 : w.heap.size ≤ b1 := by have := hB.size; omega
  replace hB := hB.trans k1
  clear eb1 z1
  refine oga rfl rfl ?_
  refine oga rfl rfl ?_
  refine aZ ?_
  refine gX 1 ?_
  refine aY ?_
  refine aX ?_
  refine ogm rfl rfl ?_
  have zb1 := hb1.lt
  have hs8 := hB.size
  refine ah (a7 (vs := [_]) rfl (lJ _ c _ (hv.lh hB) (by omega))) rfl ?_
  rintro _ w2 ⟨p1, rfl, rr, k2⟩
  replace hb1 := hb1.lh k2
  replace hB := hB.trans k2
  have gp1 := rr.1
  replace rr := rr.g
  refine oga rfl rfl ?_
  refine aZ ?_
  refine aY ?_
  refine aX ?_
  refine ogm rfl rfl ?_
  have lv_km1 := rr.lt
  refine ah (a7 (vs := [_, _]) rfl (dF p1 c 0 4 _ rr (by decide))) rfl ?_
  rintro _ w3 ⟨q1, hq1, rfl, rr, km1⟩
  rw [show bitsOf 4 = 32 from by decide] at hq1
  subst hq1
  have z_km1 := km1.size
  replace hb1 := hb1.keep km1 (fun hm => by have h9 := List.mem_singleton.1 hm; omega)
  replace hB := hB.new km1 (fun x hm => .inl (by have h9 := List.mem_singleton.1 hm; omega))
  have rr : RdrG w3 w1.heap.size p1 (rH c).2.1 (rH c).2.2 := rr
  show OW _ _ _ _ _ _ ((11, .int .i64 (rH c).1) :: _) _
  refine oga rfl rfl ?_
  refine aZ ?_
  refine aY ?_
  refine aX ?_
  refine ogm rfl rfl ?_
  have lv_km2 := rr.lt
  refine ah (a7 (vs := [_]) rfl (bn p1 (rH c).2.1 (rH c).2.2 _ rr (by omega))) rfl ?_
  rintro v1 w4 ⟨_, rfl, o1, rr, km2⟩
  have gl_o1 := hB.size
  have sb_b1_o1 := fun x hx => (show x ≠ b1 from by have h1 := (o1.blk x hx).1; have h2 := hb1.lt; omega)
  have z_km2 := km2.size
  replace hb1 := hb1.keep km2 (fun hm => by have h9 := List.mem_singleton.1 hm; omega)
  replace hB := hB.new km2 (fun x hm => .inl (by have h9 := List.mem_singleton.1 hm; omega))
  have rr : RdrG w4 w1.heap.size p1 (rG c).2.1 (rG c).2.2 := rr
  replace o1 : OwnB w4 w3.heap.size v1 (rG c).1 := o1
  refine ogm rfl rfl ?_
  have lv_km3 := rr.lt
  refine ah (a7 (vs := [_, _]) rfl (dF p1 (rG c).2.1 (rG c).2.2 8 _ rr (by decide))) rfl ?_
  rintro _ w5 ⟨q2, hq2, rfl, rr, km3⟩
  rw [show bitsOf 8 = 62 from by decide] at hq2
  subst hq2
  have z_km3 := km3.size
  replace hb1 := hb1.keep km3 (fun hm => by have h9 := List.mem_singleton.1 hm; omega)
  replace o1 := o1.keep km3 (fun x hx hm => by have h9 := List.mem_singleton.1 hm; have h8 := (o1.blk x hx).1; omega)
  replace hB := hB.new km3 (fun x hm => .inl (by have h9 := List.mem_singleton.1 hm; omega))
  have rr : RdrG w5 w1.heap.size p1 (rEp c).2.1 (rEp c).2.2 := rr
  show OW _ _ _ _ _ _ ((15, .int .i64 (rEp c).1) :: _) _
  refine ogm rfl rfl ?_
  have lv_km4 := rr.lt
  refine ah (a7 (vs := [_, _]) rfl (dF p1 (rEp c).2.1 (rEp c).2.2 1 _ rr (by decide))) rfl ?_
  rintro _ w6 ⟨q3, hq3, rfl, rr, km4⟩
  rw [show bitsOf 1 = 8 from by decide] at hq3
  subst hq3
  have z_km4 := km4.size
  replace hb1 := hb1.keep km4 (fun hm => by have h9 := List.mem_singleton.1 hm; omega)
  replace o1 := o1.keep km4 (fun x hx hm => by have h9 := List.mem_singleton.1 hm; have h8 := (o1.blk x hx).1; omega)
  replace hB := hB.new km4 (fun x hm => .inl (by have h9 := List.mem_singleton.1 hm; omega))
  have rr : RdrG w6 w1.heap.size p1 (rFr c).2.1 (rFr c).2.2 := rr
  show OW _ _ _ _ _ _ ((17, .int .i64 (rFr c).1) :: _) _
  refine a4 (cL (idx := [0, 1, 2]) (xs := [.tmp 13, .tmp 15, .tmp 17]) (vs := [_, _, _]) (css := [[_], [_], [_]]) (out := [_, _, _, _, _, _, _]) pl28 dd rfl rfl ⟨Rd.cells (by first | assumption | exact Own.rd (by assumption) | exact Rd.lh (by assumption) hB | exact Own.rd (Own.lh (by assumption) hB)), rfl, rfl, trivial⟩ rfl rfl) rfl ?_
  have lt7 := rr.lt
  refine ah (cI dd) rfl ?_
  rintro _ w7 ⟨b2, rfl, eb2, hb2, k3, z2⟩
  have zp7 : p1 < b2 := by omega
  have ge_b2 : w.heap.size ≤ b2 := by have := hB.size; omega
  have ne_b1_b2 : b1 ≠ b2 := by have := hb1.lt; omega
  have sb_b2_o1 := fun x hx => (show x ≠ b2 from by have := (o1.blk x hx).2; omega)
  replace hb1 := hb1.lh k3
  replace rr := rr.lh k3
  replace o1 := o1.lh k3
  replace hB := hB.trans k3
  clear eb2 z2
  refine am (bU dd rfl rfl rfl (by simp only [List.forall_mem_cons]; exact ⟨o1.rd.one, rfl, rfl, rfl, rfl, rfl, rfl, fun v hv => by cases hv⟩) hb2 rfl) ?_
  rintro _ w8 ⟨hb3, k4, z3⟩
  replace hb1 := hb1.keep k4 (nm ne_b1_b2)
  replace rr := rr.keep k4 (fun x hx hm => (fun x (hx : w1.heap.size ≤ x ∧ x ≤ p1) => (show x ≠ b2 from by have h9 := hx.1; have h8 := hx.2; omega)) x hx (List.mem_singleton.1 hm))
  replace o1 := o1.keep k4 (fun x hx hm => sb_b2_o1 x hx (List.mem_singleton.1 hm))
  replace hB := hB.new k4 (nw ge_b2)
  clear z3
  replace hb3 : Bk w8 b2 _ [v1, .int .i64 (rEp c).1, .int .i64 (rFr c).1, .int .i64 0, .slice none 0 0, .int .i64 0, .slice none 0 0] := hb3
  refine aZ ?_
  refine aY ?_
  refine aY ?_
  refine aX ?_
  refine a4 (aj 2 aD rfl bJ (by decide) rfl rfl) rfl ?_
  refine a4 (ac bZ rfl hb3 rfl) rfl ?_
  refine a4 (bF rfl rfl) rfl ?_
  refine aZ ?_
  refine ar rfl (fun hc1 => ?_) (fun hc1 => ?_)
  · -- yes
    refine aX ?_
    refine ogm rfl rfl ?_
    have lv_km5 := rr.lt
    refine ah (a7 (vs := [_, _]) rfl (dF p1 (rFr c).2.1 (rFr c).2.2 4 _ rr (by decide))) rfl ?_
    rintro _ w9 ⟨q4, hq4, rfl, rr, km5⟩
    rw [show bitsOf 4 = 32 from by decide] at hq4
    subst hq4
    have z_km5 := km5.size
    replace hb1 := hb1.keep km5 (fun hm => by have h9 := List.mem_singleton.1 hm; omega)
    replace o1 := o1.keep km5 (fun x hx hm => by have h9 := List.mem_singleton.1 hm; have h8 := (o1.blk x hx).1; omega)
    replace hb3 := hb3.keep km5 (fun hm => by have h9 := List.mem_singleton.1 hm; omega)
    replace hB := hB.new km5 (fun x hm => .inl (by have h9 := List.mem_singleton.1 hm; omega))
    have e_Lf : rLf c = rNum 32 (rFr c).2.1 (rFr c).2.2 4 := if_pos (by assumption)
    have rr : RdrG w9 w1.heap.size p1 (rLf c).2.1 (rLf c).2.2 := by rw [e_Lf]; exact rr
    suffices hsf : OW _ _ _ _ _ _ ((23, .int .i64 (rLf c).1) :: _) _ by rw [e_Lf] at hsf; exact hsf
    refine a4 (aj 3 aD rfl bJ (by decide) rfl rfl) rfl ?_
    refine am (bQ bJ rfl rfl rfl hb3 rfl) ?_
    rintro _ w10 ⟨hb4, k5, z4⟩
    replace hb1 := hb1.keep k5 (nm ne_b1_b2)
    replace rr := rr.keep k5 (fun x hx hm => (fun x (hx : w1.heap.size ≤ x ∧ x ≤ p1) => (show x ≠ b2 from by have h9 := hx.1; have h8 := hx.2; omega)) x hx (List.mem_singleton.1 hm))
    replace o1 := o1.keep k5 (fun x hx hm => sb_b2_o1 x hx (List.mem_singleton.1 hm))
    replace hB := hB.new k5 (nw ge_b2)
    clear z4
    replace hb4 : Bk w10 b2 _ [v1, .int .i64 (rEp c).1, .int .i64 (rFr c).1, .int .i64 (rLf c).1, .slice none 0 0, .int .i64 0, .slice none 0 0] := hb4
    refine aZ ?_
    refine aY ?_
    refine aX ?_
    refine ogm rfl rfl ?_
    have lv_km6 := rr.lt
    refine ah (a7 (vs := [_]) rfl (bn p1 (rLf c).2.1 (rLf c).2.2 _ rr (by omega))) rfl ?_
    rintro v2 w11 ⟨_, rfl, o2, rr, km6⟩
    have gl_o2 := hB.size
    have sb_b1_o2 := fun x hx => (show x ≠ b1 from by have h1 := (o2.blk x hx).1; have h2 := hb1.lt; omega)
    have sb_b2_o2 := fun x hx => (show x ≠ b2 from by have h1 := (o2.blk x hx).1; have h2 := hb4.lt; omega)
    have z_km6 := km6.size
    replace hb1 := hb1.keep km6 (fun hm => by have h9 := List.mem_singleton.1 hm; omega)
    replace o1 := o1.keep km6 (fun x hx hm => by have h9 := List.mem_singleton.1 hm; have h8 := (o1.blk x hx).1; omega)
    replace hb4 := hb4.keep km6 (fun hm => by have h9 := List.mem_singleton.1 hm; omega)
    replace hB := hB.new km6 (fun x hm => .inl (by have h9 := List.mem_singleton.1 hm; omega))
    have rr : RdrG w11 w1.heap.size p1 (rM c).2.1 (rM c).2.2 := rr
    replace o2 : OwnB w11 w10.heap.size v2 (rM c).1 := o2
    refine ogm rfl rfl ?_
    have lv_km7 := rr.lt
    refine ah (a7 (vs := [_, _]) rfl (dF p1 (rM c).2.1 (rM c).2.2 1 _ rr (by decide))) rfl ?_
    rintro _ w12 ⟨q5, hq5, rfl, rr, km7⟩
    rw [show bitsOf 1 = 8 from by decide] at hq5
    subst hq5
    have z_km7 := km7.size
    replace hb1 := hb1.keep km7 (fun hm => by have h9 := List.mem_singleton.1 hm; omega)
    replace o1 := o1.keep km7 (fun x hx hm => by have h9 := List.mem_singleton.1 hm; have h8 := (o1.blk x hx).1; omega)
    replace hb4 := hb4.keep km7 (fun hm => by have h9 := List.mem_singleton.1 hm; omega)
    replace o2 := o2.keep km7 (fun x hx hm => by have h9 := List.mem_singleton.1 hm; have h8 := (o2.blk x hx).1; omega)
    replace hB := hB.new km7 (fun x hm => .inl (by have h9 := List.mem_singleton.1 hm; omega))
    have rr : RdrG w12 w1.heap.size p1 (rKd c).2.1 (rKd c).2.2 := rr
    show OW _ _ _ _ _ _ ((28, .int .i64 (rKd c).1) :: _) _
    refine ogm rfl rfl ?_
    have lv_km8 := rr.lt
    refine ah (a7 (vs := [_]) rfl (bn p1 (rKd c).2.1 (rKd c).2.2 _ rr (by omega))) rfl ?_
    rintro v3 w13 ⟨_, rfl, o3, rr, km8⟩
    have gl_o3 := hB.size
    have sb_b1_o3 := fun x hx => (show x ≠ b1 from by have h1 := (o3.blk x hx).1; have h2 := hb1.lt; omega)
    have sb_b2_o3 := fun x hx => (show x ≠ b2 from by have h1 := (o3.blk x hx).1; have h2 := hb4.lt; omega)
    have z_km8 := km8.size
    replace hb1 := hb1.keep km8 (fun hm => by have h9 := List.mem_singleton.1 hm; omega)
    replace o1 := o1.keep km8 (fun x hx hm => by have h9 := List.mem_singleton.1 hm; have h8 := (o1.blk x hx).1; omega)
    replace hb4 := hb4.keep km8 (fun hm => by have h9 := List.mem_singleton.1 hm; omega)
    replace o2 := o2.keep km8 (fun x hx hm => by have h9 := List.mem_singleton.1 hm; have h8 := (o2.blk x hx).1; omega)
    replace hB := hB.new km8 (fun x hm => .inl (by have h9 := List.mem_singleton.1 hm; omega))
    have rr : RdrG w13 w1.heap.size p1 (rB c).2.1 (rB c).2.2 := rr
    replace o3 : OwnB w13 w12.heap.size v3 (rB c).1 := o3
    refine a4 (aj 4 aD rfl az (by decide) rfl rfl) rfl ?_
    refine am (bQ az rfl rfl (Rd.one (by first | assumption | exact Own.rd (by assumption) | exact Rd.lh (by assumption) hB | exact Own.rd (Own.lh (by assumption) hB))) hb4 rfl) ?_
    rintro _ w14 ⟨hb5, k6, z5⟩
    replace hb1 := hb1.keep k6 (nm ne_b1_b2)
    replace rr := rr.keep k6 (fun x hx hm => (fun x (hx : w1.heap.size ≤ x ∧ x ≤ p1) => (show x ≠ b2 from by have h9 := hx.1; have h8 := hx.2; omega)) x hx (List.mem_singleton.1 hm))
    replace o1 := o1.keep k6 (fun x hx hm => sb_b2_o1 x hx (List.mem_singleton.1 hm))
    replace o2 := o2.keep k6 (fun x hx hm => sb_b2_o2 x hx (List.mem_singleton.1 hm))
    replace o3 := o3.keep k6 (fun x hx hm => sb_b2_o3 x hx (List.mem_singleton.1 hm))
    replace hB := hB.new k6 (nw ge_b2)
    clear z5
    replace hb5 : Bk w14 b2 _ [v1, .int .i64 (rEp c).1, .int .i64 (rFr c).1, .int .i64 (rLf c).1, v2, .int .i64 0, .slice none 0 0] := hb5
    refine a4 (aj 5 aD rfl bJ (by decide) rfl rfl) rfl ?_
    refine am (bQ bJ rfl rfl rfl hb5 rfl) ?_
    rintro _ w15 ⟨hb6, k7, z6⟩
    replace hb1 := hb1.keep k7 (nm ne_b1_b2)
    replace rr := rr.keep k7 (fun x hx hm => (fun x (hx : w1.heap.size ≤ x ∧ x ≤ p1) => (show x ≠ b2 from by have h9 := hx.1; have h8 := hx.2; omega)) x hx (List.mem_singleton.1 hm))
    replace o1 := o1.keep k7 (fun x hx hm => sb_b2_o1 x hx (List.mem_singleton.1 hm))
    replace o2 := o2.keep k7 (fun x hx hm => sb_b2_o2 x hx (List.mem_singleton.1 hm))
    replace o3 := o3.keep k7 (fun x hx hm => sb_b2_o3 x hx (List.mem_singleton.1 hm))
    replace hB := hB.new k7 (nw ge_b2)
    clear z6
    replace hb6 : Bk w15 b2 _ [v1, .int .i64 (rEp c).1, .int .i64 (rFr c).1, .int .i64 (rLf c).1, v2, .int .i64 (rKd c).1, .slice none 0 0] := hb6
    refine a4 (aj 6 aD rfl az (by decide) rfl rfl) rfl ?_
    refine am (bQ az rfl rfl (Rd.one (by first | assumption | exact Own.rd (by assumption) | exact Rd.lh (by assumption) hB | exact Own.rd (Own.lh (by assumption) hB))) hb6 rfl) ?_
    rintro _ w16 ⟨hb7, k8, z7⟩
    replace hb1 := hb1.keep k8 (nm ne_b1_b2)
    replace rr := rr.keep k8 (fun x hx hm => (fun x (hx : w1.heap.size ≤ x ∧ x ≤ p1) => (show x ≠ b2 from by have h9 := hx.1; have h8 := hx.2; omega)) x hx (List.mem_singleton.1 hm))
    replace o1 := o1.keep k8 (fun x hx hm => sb_b2_o1 x hx (List.mem_singleton.1 hm))
    replace o2 := o2.keep k8 (fun x hx hm => sb_b2_o2 x hx (List.mem_singleton.1 hm))
    replace o3 := o3.keep k8 (fun x hx hm => sb_b2_o3 x hx (List.mem_singleton.1 hm))
    replace hB := hB.new k8 (nw ge_b2)
    clear z7
    replace hb7 : Bk w16 b2 _ [v1, .int .i64 (rEp c).1, .int .i64 (rFr c).1, .int .i64 (rLf c).1, v2, .int .i64 (rKd c).1, v3] := hb7
    refine aZ ?_
    refine aY ?_
    refine cR 4 [0, 1, 2, 3] [2] [p1] [] mixed [(7, _), (5, _), (2, _), (0, _), (3, _), (4, _), (8, _), (9, _), (10, _), (11, _), (6, _), (12, _), (13, _), (14, _), (15, _), (16, _), (17, _), (18, _), (19, _), (20, _), (21, _), (22, _), (23, _), (24, _), (25, _), (26, _), (27, _), (28, _), (29, _), (30, _), (31, _), (32, _), (33, _)] ⟨rfl, rfl, rfl, rfl, rfl, rfl, rfl, rfl, rfl, rfl, rfl, rfl, rfl, rfl, rfl, rfl, rfl, rfl, rfl, rfl, rfl, rfl, rfl, rfl, rfl, rfl, rfl, rfl, rfl, rfl, rfl, rfl, rfl, trivial⟩ (by decide +kernel) (by decide) (by decide) ?_ (fun x hx => by have h9 := List.mem_singleton.1 hx; have := rr.lt; omega) rfl (fun w17 k9 => ?_)
    · intro q hq; cases hq
    replace hb1 := hb1.lh k9
    replace rr := rr.lh k9
    replace o1 := o1.lh k9
    replace o2 := o2.lh k9
    replace o3 := o3.lh k9
    replace hb7 := hb7.lh k9
    replace hB := hB.trans k9
    refine bY 7 rfl rfl rfl rfl (fun W' kk => an (cs' := [_, _, _, _, _, _, _]) fx dd rfl (Bk.keep hb7 kk (by simp only [List.mem_cons, List.not_mem_nil, or_false]; first | assumption | (apply Ne.symm; assumption) | omega)) rfl rfl) ?_
    refine cM 5 rfl rfl rfl rfl rfl ?_
    refine ix [(35, _)] rfl rfl ⟨rfl, trivial⟩ rfl (fun w18 k10 => ?_)
    replace hb1 := hb1.lh k10
    replace rr := rr.lh k10
    replace o1 := o1.lh k10
    replace o2 := o2.lh k10
    replace o3 := o3.lh k10
    replace hb7 := hb7.lh k10
    replace hB := hB.trans k10
    have lv_km9 := rr.lt
    refine (a7 (vs := [_]) rfl (bn p1 (rB c).2.1 (rB c).2.2 _ rr (by omega))).mono ?_
    rintro v4 w19 ⟨_, rfl, o4, rr, km9⟩
    have gl_o4 := hB.size
    have sb_b1_o4 := fun x hx => (show x ≠ b1 from by have h1 := (o4.blk x hx).1; have h2 := hb1.lt; omega)
    have z_km9 := km9.size
    replace hb1 := hb1.keep km9 (fun hm => by have h9 := List.mem_singleton.1 hm; omega)
    replace o1 := o1.keep km9 (fun x hx hm => by have h9 := List.mem_singleton.1 hm; have h8 := (o1.blk x hx).1; omega)
    replace o2 := o2.keep km9 (fun x hx hm => by have h9 := List.mem_singleton.1 hm; have h8 := (o2.blk x hx).1; omega)
    replace o3 := o3.keep km9 (fun x hx hm => by have h9 := List.mem_singleton.1 hm; have h8 := (o3.blk x hx).1; omega)
    replace hb7 := hb7.keep km9 (fun hm => by have h9 := List.mem_singleton.1 hm; omega)
    replace hB := hB.new km9 (fun x hm => .inl (by have h9 := List.mem_singleton.1 hm; omega))
    refine ⟨km9, (fun x hx => ⟨.inr (o4.blk x (o4.rd.cblk ▸ hx)).1, (o4.blk x (o4.rd.cblk ▸ hx)).2⟩), ?_⟩
    have rr : RdrG w19 w1.heap.size p1 (rS c).2.1 (rS c).2.2 := rr
    replace o4 : OwnB w19 w18.heap.size v4 (rS c).1 := o4
    refine cZ 34 36 rfl rfl rfl rfl rfl (fun W' kk => cL (idx := [0, 1, 2]) (xs := [.tmp 34, .const (.int .i64 1), .tmp 36]) (vs := [_, _, _]) (css := [[v1, .int .i64 (rEp c).1, .int .i64 (rFr c).1, .int .i64 (rLf c).1, v2, .int .i64 (rKd c).1, v3], [.int .i64 1], [v4]]) (out := [v1, .int .i64 (rEp c).1, .int .i64 (rFr c).1, .int .i64 (rLf c).1, v2, .int .i64 (rKd c).1, v3, .int .i64 1, v4, .slice none 0 0]) fM bM rfl rfl ⟨rfl, rfl, Rd.cells (Own.rd o4), trivial⟩ rfl rfl) ?_
    refine dc (fun w20 k11 => ?_)
    replace hb1 := hb1.lh k11
    replace rr := rr.lh k11
    replace o1 := o1.lh k11
    replace o2 := o2.lh k11
    replace o3 := o3.lh k11
    replace hb7 := hb7.lh k11
    replace o4 := o4.lh k11
    replace hB := hB.trans k11
    refine cT ?_
    refine am (bU bM rfl rfl rfl (by simp only [List.forall_mem_cons]; exact ⟨o1.rd.one, rfl, rfl, rfl, o2.rd.one, rfl, o3.rd.one, rfl, o4.rd.one, rfl, fun v hv => by cases hv⟩) hb1 rfl) ?_
    rintro _ w21 ⟨hb8, k12, z8⟩
    replace rr := rr.keep k12 (fun x hx hm => (fun x (hx : w1.heap.size ≤ x ∧ x ≤ p1) => (show x ≠ b1 from by have h9 := hx.1; omega)) x hx (List.mem_singleton.1 hm))
    replace o1 := o1.keep k12 (fun x hx hm => sb_b1_o1 x hx (List.mem_singleton.1 hm))
    replace o2 := o2.keep k12 (fun x hx hm => sb_b1_o2 x hx (List.mem_singleton.1 hm))
    replace o3 := o3.keep k12 (fun x hx hm => sb_b1_o3 x hx (List.mem_singleton.1 hm))
    replace hb7 := hb7.keep k12 (nm (Ne.symm ne_b1_b2))
    replace o4 := o4.keep k12 (fun x hx hm => sb_b1_o4 x hx (List.mem_singleton.1 hm))
    replace hB := hB.new k12 (nw ge_b1)
    clear z8
    replace hb8 : Bk w21 b1 _ [v1, .int .i64 (rEp c).1, .int .i64 (rFr c).1, .int .i64 (rLf c).1, v2, .int .i64 (rKd c).1, v3, .int .i64 1, v4, .slice none 0 0] := hb8
    refine aZ ?_
    refine aY ?_
    refine aY ?_
    refine aX ?_
    refine a4 (aj 5 aD rfl bJ (by decide) rfl rfl) rfl ?_
    refine a4 (ac bZ rfl hb7 rfl) rfl ?_
    refine a4 (bF rfl rfl) rfl ?_
    refine aZ ?_
    refine ar rfl (fun hc2 => ?_) (fun hc2 => ?_)
    · -- yes
      refine aX ?_
      refine ogm rfl rfl ?_
      have lv_km10 := rr.lt
      refine ah (a7 (vs := [_]) rfl (bn p1 (rS c).2.1 (rS c).2.2 _ rr (by omega))) rfl ?_
      rintro v5 w22 ⟨_, rfl, o5, rr, km10⟩
      have gl_o5 := hB.size
      have sb_b1_o5 := fun x hx => (show x ≠ b1 from by have h1 := (o5.blk x hx).1; have h2 := hb8.lt; omega)
      have z_km10 := km10.size
      replace o1 := o1.keep km10 (fun x hx hm => by have h9 := List.mem_singleton.1 hm; have h8 := (o1.blk x hx).1; omega)
      replace o2 := o2.keep km10 (fun x hx hm => by have h9 := List.mem_singleton.1 hm; have h8 := (o2.blk x hx).1; omega)
      replace o3 := o3.keep km10 (fun x hx hm => by have h9 := List.mem_singleton.1 hm; have h8 := (o3.blk x hx).1; omega)
      replace hb7 := hb7.keep km10 (fun hm => by have h9 := List.mem_singleton.1 hm; omega)
      replace o4 := o4.keep km10 (fun x hx hm => by have h9 := List.mem_singleton.1 hm; have h8 := (o4.blk x hx).1; omega)
      replace hb8 := hb8.keep km10 (fun hm => by have h9 := List.mem_singleton.1 hm; omega)
      replace hB := hB.new km10 (fun x hm => .inl (by have h9 := List.mem_singleton.1 hm; omega))
      have e_C : rC c = rVec (rS c).2.1 (rS c).2.2 := if_pos (by assumption)
      have rr : RdrG w22 w1.heap.size p1 (rC c).2.1 (rC c).2.2 := by rw [e_C]; exact rr
      replace o5 : OwnB w22 w21.heap.size v5 (rC c).1 := by rw [e_C]; exact o5
      refine a4 (aj 9 aN rfl az (by decide) rfl rfl) rfl ?_
      refine am (bQ az rfl rfl (Rd.one (by first | assumption | exact Own.rd (by assumption) | exact Rd.lh (by assumption) hB | exact Own.rd (Own.lh (by assumption) hB))) hb8 rfl) ?_
      rintro _ w23 ⟨hb9, k13, z9⟩
      replace rr := rr.keep k13 (fun x hx hm => (fun x (hx : w1.heap.size ≤ x ∧ x ≤ p1) => (show x ≠ b1 from by have h9 := hx.1; omega)) x hx (List.mem_singleton.1 hm))
      replace o1 := o1.keep k13 (fun x hx hm => sb_b1_o1 x hx (List.mem_singleton.1 hm))
      replace o2 := o2.keep k13 (fun x hx hm => sb_b1_o2 x hx (List.mem_singleton.1 hm))
      replace o3 := o3.keep k13 (fun x hx hm => sb_b1_o3 x hx (List.mem_singleton.1 hm))
      replace hb7 := hb7.keep k13 (nm (Ne.symm ne_b1_b2))
      replace o4 := o4.keep k13 (fun x hx hm => sb_b1_o4 x hx (List.mem_singleton.1 hm))
      replace o5 := o5.keep k13 (fun x hx hm => sb_b1_o5 x hx (List.mem_singleton.1 hm))
      replace hB := hB.new k13 (nw ge_b1)
      clear z9
      replace hb9 : Bk w23 b1 _ [v1, .int .i64 (rEp c).1, .int .i64 (rFr c).1, .int .i64 (rLf c).1, v2, .int .i64 (rKd c).1, v3, .int .i64 1, v4, v5] := hb9
      refine aZ ?_
      refine aY ?_
      refine aY ?_
      refine aX ?_
      refine a4 (aj 2 aD rfl bJ (by decide) rfl rfl) rfl ?_
      refine a4 (ac bZ rfl hb7 rfl) rfl ?_
      refine a4 (bF rfl rfl) rfl ?_
      refine aZ ?_
      refine ar rfl (fun hc3 => ?_) (fun hc3 => ?_)
      · -- yes
        refine aY ?_
        refine aX ?_
        refine ogm rfl rfl ?_
        have lv_km11 := rr.lt
        refine ah (a7 (vs := [_]) rfl (bn p1 (rC c).2.1 (rC c).2.2 _ rr (by omega))) rfl ?_
        rintro v6 w24 ⟨_, rfl, o6, rr, km11⟩
        have gl_o6 := hB.size
        have sb_b1_o6 := fun x hx => (show x ≠ b1 from by have h1 := (o6.blk x hx).1; have h2 := hb9.lt; omega)
        have z_km11 := km11.size
        replace o1 := o1.keep km11 (fun x hx hm => by have h9 := List.mem_singleton.1 hm; have h8 := (o1.blk x hx).1; omega)
        replace o2 := o2.keep km11 (fun x hx hm => by have h9 := List.mem_singleton.1 hm; have h8 := (o2.blk x hx).1; omega)
        replace o3 := o3.keep km11 (fun x hx hm => by have h9 := List.mem_singleton.1 hm; have h8 := (o3.blk x hx).1; omega)
        replace hb7 := hb7.keep km11 (fun hm => by have h9 := List.mem_singleton.1 hm; omega)
        replace o4 := o4.keep km11 (fun x hx hm => by have h9 := List.mem_singleton.1 hm; have h8 := (o4.blk x hx).1; omega)
        replace o5 := o5.keep km11 (fun x hx hm => by have h9 := List.mem_singleton.1 hm; have h8 := (o5.blk x hx).1; omega)
        replace hb9 := hb9.keep km11 (fun hm => by have h9 := List.mem_singleton.1 hm; omega)
        replace hB := hB.new km11 (fun x hm => .inl (by have h9 := List.mem_singleton.1 hm; omega))
        have e_T : rT c = rVec (rC c).2.1 (rC c).2.2 := if_pos (by assumption)
        have rr : RdrG w24 w1.heap.size p1 (rT c).2.1 (rT c).2.2 := by rw [e_T]; exact rr
        replace o6 : OwnB w24 w23.heap.size v6 (rT c).1 := by rw [e_T]; exact o6
        refine oga rfl rfl ?_
        refine aZ ?_
        refine aY ?_
        refine aX ?_
        refine ogm rfl rfl ?_
        refine a4 (bI aA rfl o6.rd) rfl ?_
        refine a4 (cC rfl rfl) rfl ?_
        refine aZ ?_
        refine ar rfl (fun hc4 => ?_) (fun hc4 => ?_)
        · -- yes
          refine cU rfl ?_
          refine aY ?_
          refine a8 ?_
          refine aY ?_
          refine aX ?_
          refine a4 (cL (idx := []) (xs := []) (vs := []) (css := []) (out := [_, _, _, _, _, _, _, _, _, _]) fM bM rfl rfl trivial rfl rfl) rfl ?_
          refine am (bU bM rfl rfl rfl (by simp only [List.forall_mem_cons]; exact ⟨rfl, rfl, rfl, rfl, rfl, rfl, rfl, rfl, rfl, rfl, fun v hv => by cases hv⟩) hb9 rfl) ?_
          rintro _ w25 ⟨hb10, k14, z10⟩
          replace rr := rr.keep k14 (fun x hx hm => (fun x (hx : w1.heap.size ≤ x ∧ x ≤ p1) => (show x ≠ b1 from by have h9 := hx.1; omega)) x hx (List.mem_singleton.1 hm))
          replace o1 := o1.keep k14 (fun x hx hm => sb_b1_o1 x hx (List.mem_singleton.1 hm))
          replace o2 := o2.keep k14 (fun x hx hm => sb_b1_o2 x hx (List.mem_singleton.1 hm))
          replace o3 := o3.keep k14 (fun x hx hm => sb_b1_o3 x hx (List.mem_singleton.1 hm))
          replace hb7 := hb7.keep k14 (nm (Ne.symm ne_b1_b2))
          replace o4 := o4.keep k14 (fun x hx hm => sb_b1_o4 x hx (List.mem_singleton.1 hm))
          replace o5 := o5.keep k14 (fun x hx hm => sb_b1_o5 x hx (List.mem_singleton.1 hm))
          replace o6 := o6.keep k14 (fun x hx hm => sb_b1_o6 x hx (List.mem_singleton.1 hm))
          replace hB := hB.new k14 (nw ge_b1)
          clear z10
          replace hb10 : Bk w25 b1 _ [.slice none 0 0, .int .i64 0, .int .i64 0, .int .i64 0, .slice none 0 0, .int .i64 0, .slice none 0 0, .int .i64 0, .slice none 0 0, .slice none 0 0] := hb10
          refine oga rfl rfl ?_
          refine oga rfl rfl ?_
          refine aZ ?_
          refine bB hfin Tryd.results10 rfl (ao cO bM hb10 rfl) rfl rfl ?_
          have hg : gpOkP c = false := by first | exact dt (by assumption) | exact du (by assumption) (by assumption)
          have eX : gpX c = fJ := by unfold gpX; rw [hg]; rfl
          have eT : gpT c = [] := by unfold gpT; rw [hg]; rfl
          have eF : gpF c = 21 := by unfold gpF; rw [hg]; rfl
          rw [eX, eT, eF]
          exact ⟨_, _, _, _, _, _, rfl, a9 _ _ _ _, a9 _ _ _ _, a9 _ _ _ _, a9 _ _ _ _, a9 _ _ _ _, a9 _ _ _ _, hB⟩
        · -- no
          refine a8 ?_
          refine aY ?_
          refine aY ?_
          refine aX ?_
          refine ogm rfl rfl ?_
          refine a4 (bF rfl rfl) rfl ?_
          refine ogm rfl rfl ?_
          refine al 54 true rfl (fun c1 hgc1 => ?_)
          refine a5 [(5, _)] (aa rfl rfl rfl hgc1) ⟨au rfl, trivial⟩ (fun hw1 => av rfl) rfl ?_
          refine dl [(55, _)] (aa rfl rfl rfl hgc1) ⟨ae rfl, trivial⟩ (fun hw2 => a7 (vs := [_]) rfl (eM _ _ _ _ rr.rdr)) rfl ?_
          refine a5 [(56, _)] (aa rfl rfl rfl hgc1) ⟨ae rfl, trivial⟩ (fun hw3 => bF rfl rfl) rfl ?_
          refine a4 (ax rfl rfl hgc1) rfl ?_
          refine ogm rfl rfl ?_
          refine al 59 true rfl (fun c2 hgc2 => ?_)
          refine a5 [(2, _)] (aa rfl rfl rfl hgc2) ⟨au rfl, trivial⟩ (fun hw4 => an (cs' := [_, _, _, _, _, _, _, _, _, _]) cO bM rfl hb9 rfl rfl) rfl ?_
          refine cQ [(60, _)] (aa rfl rfl rfl hgc2) ⟨ae rfl, trivial⟩ (fun hw5 => a7 (vs := [_]) rfl (ci _ _ _ _ _ (rX c) _ o1.rd o2.rd o3.rd o4.rd o5.rd)) rfl ?_
          rintro w27 k16
          replace rr := rr.lh k16
          replace o1 := o1.lh k16
          replace o2 := o2.lh k16
          replace o3 := o3.lh k16
          replace hb7 := hb7.lh k16
          replace o4 := o4.lh k16
          replace o5 := o5.lh k16
          replace hb9 := hb9.lh k16
          replace o6 := o6.lh k16
          replace hB := hB.trans k16
          refine a4 (ax rfl rfl hgc2) rfl ?_
          refine aZ ?_
          refine bH rfl (fun hc5 => ?_) (fun hc5 => ?_)
          · -- yes
            have hd1 := hc5
            try (simp only [Bool.and_eq_true, Bool.or_eq_true, decide_eq_true_eq, Bool.and_eq_false_iff, Bool.or_eq_false_iff, decide_eq_false_iff_not, Bool.not_eq_true', Bool.not_eq_false', Bool.not_eq_true, Bool.not_eq_false, ne_eq, Decidable.not_not, decide_true, decide_false, Bool.true_and, Bool.false_and, Bool.or_false, Bool.false_or, not_true_eq_false, false_or, or_false, true_and, and_true, not_false_eq_true, reduceCtorEq] at hd1)
            refine aY ?_
            refine aX ?_
            refine a4 (an (cs' := [_, _, _, _, _, _, _, _, _, _]) cO bM rfl hb9 rfl rfl) rfl ?_
            refine ogm rfl rfl ?_
            refine am (bU bM rfl rfl rfl (by simp only [List.forall_mem_cons]; exact ⟨o1.rd.one, rfl, rfl, rfl, o2.rd.one, rfl, o3.rd.one, rfl, o4.rd.one, o5.rd.one, fun v hv => by cases hv⟩) hb9 rfl) ?_
            rintro _ w28 ⟨hb11, k17, z11⟩
            replace rr := rr.keep k17 (fun x hx hm => (fun x (hx : w1.heap.size ≤ x ∧ x ≤ p1) => (show x ≠ b1 from by have h9 := hx.1; omega)) x hx (List.mem_singleton.1 hm))
            replace o1 := o1.keep k17 (fun x hx hm => sb_b1_o1 x hx (List.mem_singleton.1 hm))
            replace o2 := o2.keep k17 (fun x hx hm => sb_b1_o2 x hx (List.mem_singleton.1 hm))
            replace o3 := o3.keep k17 (fun x hx hm => sb_b1_o3 x hx (List.mem_singleton.1 hm))
            replace hb7 := hb7.keep k17 (nm (Ne.symm ne_b1_b2))
            replace o4 := o4.keep k17 (fun x hx hm => sb_b1_o4 x hx (List.mem_singleton.1 hm))
            replace o5 := o5.keep k17 (fun x hx hm => sb_b1_o5 x hx (List.mem_singleton.1 hm))
            replace o6 := o6.keep k17 (fun x hx hm => sb_b1_o6 x hx (List.mem_singleton.1 hm))
            replace hB := hB.new k17 (nw ge_b1)
            clear z11
            replace hb11 : Bk w28 b1 _ [v1, .int .i64 (rEp c).1, .int .i64 (rFr c).1, .int .i64 (rLf c).1, v2, .int .i64 (rKd c).1, v3, .int .i64 1, v4, v5] := hb11
            refine oga rfl rfl ?_
            refine oga rfl rfl ?_
            refine aZ ?_
            refine bB hfin Tryd.results10 rfl (ao cO bM hb11 rfl) rfl rfl ?_
            have hg : gpOkP c = true := by first | exact eI (by assumption) (by assumption) | exact eJ (by assumption) (by omega)
            have eX : gpX c = rX c := by unfold gpX; rw [hg]; rfl
            have eT : gpT c = (rT c).1 := by unfold gpT; rw [hg]; rfl
            have eF : gpF c = 0 := by unfold gpF; rw [hg]; rfl
            rw [eX, eT, eF]
            exact ⟨_, _, _, _, _, _, rfl, o1.lo gl_o1, o2.lo gl_o2, o3.lo gl_o3, o4.lo gl_o4, o5.lo gl_o5, o6.lo gl_o6, hB⟩
          · -- no
            have hd2 := hc5
            try (simp only [Bool.and_eq_true, Bool.or_eq_true, decide_eq_true_eq, Bool.and_eq_false_iff, Bool.or_eq_false_iff, decide_eq_false_iff_not, Bool.not_eq_true', Bool.not_eq_false', Bool.not_eq_true, Bool.not_eq_false, ne_eq, Decidable.not_not, decide_true, decide_false, Bool.true_and, Bool.false_and, Bool.or_false, Bool.false_or, not_true_eq_false, false_or, or_false, true_and, and_true, not_false_eq_true, reduceCtorEq] at hd2)
            refine a8 ?_
            refine aY ?_
            refine cX ?_
            refine aY ?_
            refine aX ?_
            refine a4 (cL (idx := []) (xs := []) (vs := []) (css := []) (out := [_, _, _, _, _, _, _, _, _, _]) fM bM rfl rfl trivial rfl rfl) rfl ?_
            refine am (bU bM rfl rfl rfl (by simp only [List.forall_mem_cons]; exact ⟨rfl, rfl, rfl, rfl, rfl, rfl, rfl, rfl, rfl, rfl, fun v hv => by cases hv⟩) hb9 rfl) ?_
            rintro _ w29 ⟨hb12, k18, z12⟩
            replace rr := rr.keep k18 (fun x hx hm => (fun x (hx : w1.heap.size ≤ x ∧ x ≤ p1) => (show x ≠ b1 from by have h9 := hx.1; omega)) x hx (List.mem_singleton.1 hm))
            replace o1 := o1.keep k18 (fun x hx hm => sb_b1_o1 x hx (List.mem_singleton.1 hm))
            replace o2 := o2.keep k18 (fun x hx hm => sb_b1_o2 x hx (List.mem_singleton.1 hm))
            replace o3 := o3.keep k18 (fun x hx hm => sb_b1_o3 x hx (List.mem_singleton.1 hm))
            replace hb7 := hb7.keep k18 (nm (Ne.symm ne_b1_b2))
            replace o4 := o4.keep k18 (fun x hx hm => sb_b1_o4 x hx (List.mem_singleton.1 hm))
            replace o5 := o5.keep k18 (fun x hx hm => sb_b1_o5 x hx (List.mem_singleton.1 hm))
            replace o6 := o6.keep k18 (fun x hx hm => sb_b1_o6 x hx (List.mem_singleton.1 hm))
            replace hB := hB.new k18 (nw ge_b1)
            clear z12
            replace hb12 : Bk w29 b1 _ [.slice none 0 0, .int .i64 0, .int .i64 0, .int .i64 0, .slice none 0 0, .int .i64 0, .slice none 0 0, .int .i64 0, .slice none 0 0, .slice none 0 0] := hb12
            refine oga rfl rfl ?_
            refine oga rfl rfl ?_
            refine aZ ?_
            refine bB hfin Tryd.results10 rfl (ao cO bM hb12 rfl) rfl rfl ?_
            have hg : gpOkP c = false := by first | exact dt (by assumption) | exact du (by assumption) (by assumption)
            have eX : gpX c = fJ := by unfold gpX; rw [hg]; rfl
            have eT : gpT c = [] := by unfold gpT; rw [hg]; rfl
            have eF : gpF c = 21 := by unfold gpF; rw [hg]; rfl
            rw [eX, eT, eF]
            exact ⟨_, _, _, _, _, _, rfl, a9 _ _ _ _, a9 _ _ _ _, a9 _ _ _ _, a9 _ _ _ _, a9 _ _ _ _, a9 _ _ _ _, hB⟩
      · -- no
        refine a8 ?_
        refine aY ?_
        refine aY ?_
        refine aX ?_
        have e_T : rT c = ([], (rC c).2) := if_neg (by assumption)
        have rr : RdrG w23 w1.heap.size p1 (rT c).2.1 (rT c).2.2 := by rw [e_T]; exact rr
        refine ogm rfl rfl ?_
        refine a4 (bF rfl rfl) rfl ?_
        refine ogm rfl rfl ?_
        refine al 54 true rfl (fun c3 hgc3 => ?_)
        refine a5 [(5, _)] (aa rfl rfl rfl hgc3) ⟨au rfl, trivial⟩ (fun hw6 => av rfl) rfl ?_
        refine dl [(55, _)] (aa rfl rfl rfl hgc3) ⟨ae rfl, trivial⟩ (fun hw7 => a7 (vs := [_]) rfl (eM _ _ _ _ rr.rdr)) rfl ?_
        refine a5 [(56, _)] (aa rfl rfl rfl hgc3) ⟨ae rfl, trivial⟩ (fun hw8 => bF rfl rfl) rfl ?_
        refine a4 (ax rfl rfl hgc3) rfl ?_
        refine ogm rfl rfl ?_
        refine al 59 true rfl (fun c4 hgc4 => ?_)
        refine a5 [(2, _)] (aa rfl rfl rfl hgc4) ⟨au rfl, trivial⟩ (fun hw9 => an (cs' := [_, _, _, _, _, _, _, _, _, _]) cO bM rfl hb9 rfl rfl) rfl ?_
        refine cQ [(60, _)] (aa rfl rfl rfl hgc4) ⟨ae rfl, trivial⟩ (fun hw10 => a7 (vs := [_]) rfl (ci _ _ _ _ _ (rX c) _ o1.rd o2.rd o3.rd o4.rd o5.rd)) rfl ?_
        rintro w31 k20
        replace rr := rr.lh k20
        replace o1 := o1.lh k20
        replace o2 := o2.lh k20
        replace o3 := o3.lh k20
        replace hb7 := hb7.lh k20
        replace o4 := o4.lh k20
        replace o5 := o5.lh k20
        replace hb9 := hb9.lh k20
        replace hB := hB.trans k20
        refine a4 (ax rfl rfl hgc4) rfl ?_
        refine aZ ?_
        refine bH rfl (fun hc6 => ?_) (fun hc6 => ?_)
        · -- yes
          have hd3 := hc6
          try (simp only [Bool.and_eq_true, Bool.or_eq_true, decide_eq_true_eq, Bool.and_eq_false_iff, Bool.or_eq_false_iff, decide_eq_false_iff_not, Bool.not_eq_true', Bool.not_eq_false', Bool.not_eq_true, Bool.not_eq_false, ne_eq, Decidable.not_not, decide_true, decide_false, Bool.true_and, Bool.false_and, Bool.or_false, Bool.false_or, not_true_eq_false, false_or, or_false, true_and, and_true, not_false_eq_true, reduceCtorEq] at hd3)
          refine aY ?_
          refine aX ?_
          refine a4 (an (cs' := [_, _, _, _, _, _, _, _, _, _]) cO bM rfl hb9 rfl rfl) rfl ?_
          refine ogm rfl rfl ?_
          refine am (bU bM rfl rfl rfl (by simp only [List.forall_mem_cons]; exact ⟨o1.rd.one, rfl, rfl, rfl, o2.rd.one, rfl, o3.rd.one, rfl, o4.rd.one, o5.rd.one, fun v hv => by cases hv⟩) hb9 rfl) ?_
          rintro _ w32 ⟨hb13, k21, z13⟩
          replace rr := rr.keep k21 (fun x hx hm => (fun x (hx : w1.heap.size ≤ x ∧ x ≤ p1) => (show x ≠ b1 from by have h9 := hx.1; omega)) x hx (List.mem_singleton.1 hm))
          replace o1 := o1.keep k21 (fun x hx hm => sb_b1_o1 x hx (List.mem_singleton.1 hm))
          replace o2 := o2.keep k21 (fun x hx hm => sb_b1_o2 x hx (List.mem_singleton.1 hm))
          replace o3 := o3.keep k21 (fun x hx hm => sb_b1_o3 x hx (List.mem_singleton.1 hm))
          replace hb7 := hb7.keep k21 (nm (Ne.symm ne_b1_b2))
          replace o4 := o4.keep k21 (fun x hx hm => sb_b1_o4 x hx (List.mem_singleton.1 hm))
          replace o5 := o5.keep k21 (fun x hx hm => sb_b1_o5 x hx (List.mem_singleton.1 hm))
          replace hB := hB.new k21 (nw ge_b1)
          clear z13
          replace hb13 : Bk w32 b1 _ [v1, .int .i64 (rEp c).1, .int .i64 (rFr c).1, .int .i64 (rLf c).1, v2, .int .i64 (rKd c).1, v3, .int .i64 1, v4, v5] := hb13
          refine oga rfl rfl ?_
          refine oga rfl rfl ?_
          refine aZ ?_
          refine bB hfin Tryd.results10 rfl (ao cO bM hb13 rfl) rfl rfl ?_
          have hg : gpOkP c = true := by first | exact eI (by assumption) (by assumption) | exact eJ (by assumption) (by omega)
          have eX : gpX c = rX c := by unfold gpX; rw [hg]; rfl
          have eT : gpT c = (rT c).1 := by unfold gpT; rw [hg]; rfl
          have eF : gpF c = 0 := by unfold gpF; rw [hg]; rfl
          rw [eX, eT, eF]
          exact ⟨_, _, _, _, _, _, rfl, o1.lo gl_o1, o2.lo gl_o2, o3.lo gl_o3, o4.lo gl_o4, o5.lo gl_o5, dL (a9 _ _ _ _) (show [] = _ from by rw [e_T]), hB⟩
        · -- no
          have hd4 := hc6
          try (simp only [Bool.and_eq_true, Bool.or_eq_true, decide_eq_true_eq, Bool.and_eq_false_iff, Bool.or_eq_false_iff, decide_eq_false_iff_not, Bool.not_eq_true', Bool.not_eq_false', Bool.not_eq_true, Bool.not_eq_false, ne_eq, Decidable.not_not, decide_true, decide_false, Bool.true_and, Bool.false_and, Bool.or_false, Bool.false_or, not_true_eq_false, false_or, or_false, true_and, and_true, not_false_eq_true, reduceCtorEq] at hd4)
          refine a8 ?_
          refine aY ?_
          refine cX ?_
          refine aY ?_
          refine aX ?_
          refine a4 (cL (idx := []) (xs := []) (vs := []) (css := []) (out := [_, _, _, _, _, _, _, _, _, _]) fM bM rfl rfl trivial rfl rfl) rfl ?_
          refine am (bU bM rfl rfl rfl (by simp only [List.forall_mem_cons]; exact ⟨rfl, rfl, rfl, rfl, rfl, rfl, rfl, rfl, rfl, rfl, fun v hv => by cases hv⟩) hb9 rfl) ?_
          rintro _ w33 ⟨hb14, k22, z14⟩
          replace rr := rr.keep k22 (fun x hx hm => (fun x (hx : w1.heap.size ≤ x ∧ x ≤ p1) => (show x ≠ b1 from by have h9 := hx.1; omega)) x hx (List.mem_singleton.1 hm))
          replace o1 := o1.keep k22 (fun x hx hm => sb_b1_o1 x hx (List.mem_singleton.1 hm))
          replace o2 := o2.keep k22 (fun x hx hm => sb_b1_o2 x hx (List.mem_singleton.1 hm))
          replace o3 := o3.keep k22 (fun x hx hm => sb_b1_o3 x hx (List.mem_singleton.1 hm))
          replace hb7 := hb7.keep k22 (nm (Ne.symm ne_b1_b2))
          replace o4 := o4.keep k22 (fun x hx hm => sb_b1_o4 x hx (List.mem_singleton.1 hm))
          replace o5 := o5.keep k22 (fun x hx hm => sb_b1_o5 x hx (List.mem_singleton.1 hm))
          replace hB := hB.new k22 (nw ge_b1)
          clear z14
          replace hb14 : Bk w33 b1 _ [.slice none 0 0, .int .i64 0, .int .i64 0, .int .i64 0, .slice none 0 0, .int .i64 0, .slice none 0 0, .int .i64 0, .slice none 0 0, .slice none 0 0] := hb14
          refine oga rfl rfl ?_
          refine oga rfl rfl ?_
          refine aZ ?_
          refine bB hfin Tryd.results10 rfl (ao cO bM hb14 rfl) rfl rfl ?_
          have hg : gpOkP c = false := by first | exact dt (by assumption) | exact du (by assumption) (by assumption)
          have eX : gpX c = fJ := by unfold gpX; rw [hg]; rfl
          have eT : gpT c = [] := by unfold gpT; rw [hg]; rfl
          have eF : gpF c = 21 := by unfold gpF; rw [hg]; rfl
          rw [eX, eT, eF]
          exact ⟨_, _, _, _, _, _, rfl, a9 _ _ _ _, a9 _ _ _ _, a9 _ _ _ _, a9 _ _ _ _, a9 _ _ _ _, a9 _ _ _ _, hB⟩
    · -- no
      refine a8 ?_
      refine aY ?_
      refine aY ?_
      refine aX ?_
      have e_C : rC c = ([], (rS c).2) := if_neg (by assumption)
      have rr : RdrG w21 w1.heap.size p1 (rC c).2.1 (rC c).2.2 := by rw [e_C]; exact rr
      refine a4 (aj 2 aD rfl bJ (by decide) rfl rfl) rfl ?_
      refine a4 (ac bZ rfl hb7 rfl) rfl ?_
      refine a4 (bF rfl rfl) rfl ?_
      refine aZ ?_
      refine ar rfl (fun hc7 => ?_) (fun hc7 => ?_)
      · -- yes
        refine aY ?_
        refine aX ?_
        refine ogm rfl rfl ?_
        have lv_km12 := rr.lt
        refine ah (a7 (vs := [_]) rfl (bn p1 (rC c).2.1 (rC c).2.2 _ rr (by omega))) rfl ?_
        rintro v7 w34 ⟨_, rfl, o7, rr, km12⟩
        have gl_o7 := hB.size
        have sb_b1_o7 := fun x hx => (show x ≠ b1 from by have h1 := (o7.blk x hx).1; have h2 := hb8.lt; omega)
        have z_km12 := km12.size
        replace o1 := o1.keep km12 (fun x hx hm => by have h9 := List.mem_singleton.1 hm; have h8 := (o1.blk x hx).1; omega)
        replace o2 := o2.keep km12 (fun x hx hm => by have h9 := List.mem_singleton.1 hm; have h8 := (o2.blk x hx).1; omega)
        replace o3 := o3.keep km12 (fun x hx hm => by have h9 := List.mem_singleton.1 hm; have h8 := (o3.blk x hx).1; omega)
        replace hb7 := hb7.keep km12 (fun hm => by have h9 := List.mem_singleton.1 hm; omega)
        replace o4 := o4.keep km12 (fun x hx hm => by have h9 := List.mem_singleton.1 hm; have h8 := (o4.blk x hx).1; omega)
        replace hb8 := hb8.keep km12 (fun hm => by have h9 := List.mem_singleton.1 hm; omega)
        replace hB := hB.new km12 (fun x hm => .inl (by have h9 := List.mem_singleton.1 hm; omega))
        have e_T : rT c = rVec (rC c).2.1 (rC c).2.2 := if_pos (by assumption)
        have rr : RdrG w34 w1.heap.size p1 (rT c).2.1 (rT c).2.2 := by rw [e_T]; exact rr
        replace o7 : OwnB w34 w21.heap.size v7 (rT c).1 := by rw [e_T]; exact o7
        refine oga rfl rfl ?_
        refine aZ ?_
        refine aY ?_
        refine aX ?_
        refine ogm rfl rfl ?_
        refine a4 (bI aA rfl o7.rd) rfl ?_
        refine a4 (cC rfl rfl) rfl ?_
        refine aZ ?_
        refine ar rfl (fun hc8 => ?_) (fun hc8 => ?_)
        · -- yes
          refine cU rfl ?_
          refine aY ?_
          refine a8 ?_
          refine aY ?_
          refine aX ?_
          refine a4 (cL (idx := []) (xs := []) (vs := []) (css := []) (out := [_, _, _, _, _, _, _, _, _, _]) fM bM rfl rfl trivial rfl rfl) rfl ?_
          refine am (bU bM rfl rfl rfl (by simp only [List.forall_mem_cons]; exact ⟨rfl, rfl, rfl, rfl, rfl, rfl, rfl, rfl, rfl, rfl, fun v hv => by cases hv⟩) hb8 rfl) ?_
          rintro _ w35 ⟨hb15, k23, z15⟩
          replace rr := rr.keep k23 (fun x hx hm => (fun x (hx : w1.heap.size ≤ x ∧ x ≤ p1) => (show x ≠ b1 from by have h9 := hx.1; omega)) x hx (List.mem_singleton.1 hm))
          replace o1 := o1.keep k23 (fun x hx hm => sb_b1_o1 x hx (List.mem_singleton.1 hm))
          replace o2 := o2.keep k23 (fun x hx hm => sb_b1_o2 x hx (List.mem_singleton.1 hm))
          replace o3 := o3.keep k23 (fun x hx hm => sb_b1_o3 x hx (List.mem_singleton.1 hm))
          replace hb7 := hb7.keep k23 (nm (Ne.symm ne_b1_b2))
          replace o4 := o4.keep k23 (fun x hx hm => sb_b1_o4 x hx (List.mem_singleton.1 hm))
          replace o7 := o7.keep k23 (fun x hx hm => sb_b1_o7 x hx (List.mem_singleton.1 hm))
          replace hB := hB.new k23 (nw ge_b1)
          clear z15
          replace hb15 : Bk w35 b1 _ [.slice none 0 0, .int .i64 0, .int .i64 0, .int .i64 0, .slice none 0 0, .int .i64 0, .slice none 0 0, .int .i64 0, .slice none 0 0, .slice none 0 0] := hb15
          refine oga rfl rfl ?_
          refine oga rfl rfl ?_
          refine aZ ?_
          refine bB hfin Tryd.results10 rfl (ao cO bM hb15 rfl) rfl rfl ?_
          have hg : gpOkP c = false := by first | exact dt (by assumption) | exact du (by assumption) (by assumption)
          have eX : gpX c = fJ := by unfold gpX; rw [hg]; rfl
          have eT : gpT c = [] := by unfold gpT; rw [hg]; rfl
          have eF : gpF c = 21 := by unfold gpF; rw [hg]; rfl
          rw [eX, eT, eF]
          exact ⟨_, _, _, _, _, _, rfl, a9 _ _ _ _, a9 _ _ _ _, a9 _ _ _ _, a9 _ _ _ _, a9 _ _ _ _, a9 _ _ _ _, hB⟩
        · -- no
          refine a8 ?_
          refine aY ?_
          refine aY ?_
          refine aX ?_
          refine ogm rfl rfl ?_
          refine a4 (bF rfl rfl) rfl ?_
          refine ogm rfl rfl ?_
          refine al 54 true rfl (fun c5 hgc5 => ?_)
          refine a5 [(5, _)] (aa rfl rfl rfl hgc5) ⟨au rfl, trivial⟩ (fun hw11 => av rfl) rfl ?_
          refine dl [(55, _)] (aa rfl rfl rfl hgc5) ⟨ae rfl, trivial⟩ (fun hw12 => a7 (vs := [_]) rfl (eM _ _ _ _ rr.rdr)) rfl ?_
          refine a5 [(56, _)] (aa rfl rfl rfl hgc5) ⟨ae rfl, trivial⟩ (fun hw13 => bF rfl rfl) rfl ?_
          refine a4 (ax rfl rfl hgc5) rfl ?_
          refine ogm rfl rfl ?_
          refine al 59 true rfl (fun c6 hgc6 => ?_)
          refine a5 [(2, _)] (aa rfl rfl rfl hgc6) ⟨au rfl, trivial⟩ (fun hw14 => an (cs' := [_, _, _, _, _, _, _, _, _, _]) cO bM rfl hb8 rfl rfl) rfl ?_
          refine cQ [(60, _)] (aa rfl rfl rfl hgc6) ⟨ae rfl, trivial⟩ (fun hw15 => a7 (vs := [_]) rfl (ci _ _ _ _ _ (rX c) _ o1.rd o2.rd o3.rd o4.rd (show RdB _ (.slice none 0 0) _ from by rw [show (rX c).cs = [] from by show (rC c).1 = []; rw [e_C]]; exact Rd.nil _ _))) rfl ?_
          rintro w37 k25
          replace rr := rr.lh k25
          replace o1 := o1.lh k25
          replace o2 := o2.lh k25
          replace o3 := o3.lh k25
          replace hb7 := hb7.lh k25
          replace o4 := o4.lh k25
          replace hb8 := hb8.lh k25
          replace o7 := o7.lh k25
          replace hB := hB.trans k25
          refine a4 (ax rfl rfl hgc6) rfl ?_
          refine aZ ?_
          refine bH rfl (fun hc9 => ?_) (fun hc9 => ?_)
          · -- yes
            have hd5 := hc9
            try (simp only [Bool.and_eq_true, Bool.or_eq_true, decide_eq_true_eq, Bool.and_eq_false_iff, Bool.or_eq_false_iff, decide_eq_false_iff_not, Bool.not_eq_true', Bool.not_eq_false', Bool.not_eq_true, Bool.not_eq_false, ne_eq, Decidable.not_not, decide_true, decide_false, Bool.true_and, Bool.false_and, Bool.or_false, Bool.false_or, not_true_eq_false, false_or, or_false, true_and, and_true, not_false_eq_true, reduceCtorEq] at hd5)
            refine aY ?_
            refine aX ?_
            refine a4 (an (cs' := [_, _, _, _, _, _, _, _, _, _]) cO bM rfl hb8 rfl rfl) rfl ?_
            refine ogm rfl rfl ?_
            refine am (bU bM rfl rfl rfl (by simp only [List.forall_mem_cons]; exact ⟨o1.rd.one, rfl, rfl, rfl, o2.rd.one, rfl, o3.rd.one, rfl, o4.rd.one, rfl, fun v hv => by cases hv⟩) hb8 rfl) ?_
            rintro _ w38 ⟨hb16, k26, z16⟩
            replace rr := rr.keep k26 (fun x hx hm => (fun x (hx : w1.heap.size ≤ x ∧ x ≤ p1) => (show x ≠ b1 from by have h9 := hx.1; omega)) x hx (List.mem_singleton.1 hm))
            replace o1 := o1.keep k26 (fun x hx hm => sb_b1_o1 x hx (List.mem_singleton.1 hm))
            replace o2 := o2.keep k26 (fun x hx hm => sb_b1_o2 x hx (List.mem_singleton.1 hm))
            replace o3 := o3.keep k26 (fun x hx hm => sb_b1_o3 x hx (List.mem_singleton.1 hm))
            replace hb7 := hb7.keep k26 (nm (Ne.symm ne_b1_b2))
            replace o4 := o4.keep k26 (fun x hx hm => sb_b1_o4 x hx (List.mem_singleton.1 hm))
            replace o7 := o7.keep k26 (fun x hx hm => sb_b1_o7 x hx (List.mem_singleton.1 hm))
            replace hB := hB.new k26 (nw ge_b1)
            clear z16
            replace hb16 : Bk w38 b1 _ [v1, .int .i64 (rEp c).1, .int .i64 (rFr c).1, .int .i64 (rLf c).1, v2, .int .i64 (rKd c).1, v3, .int .i64 1, v4, .slice none 0 0] := hb16
            refine oga rfl rfl ?_
            refine oga rfl rfl ?_
            refine aZ ?_
            refine bB hfin Tryd.results10 rfl (ao cO bM hb16 rfl) rfl rfl ?_
            have hg : gpOkP c = true := by first | exact eI (by assumption) (by assumption) | exact eJ (by assumption) (by omega)
            have eX : gpX c = rX c := by unfold gpX; rw [hg]; rfl
            have eT : gpT c = (rT c).1 := by unfold gpT; rw [hg]; rfl
            have eF : gpF c = 0 := by unfold gpF; rw [hg]; rfl
            rw [eX, eT, eF]
            exact ⟨_, _, _, _, _, _, rfl, o1.lo gl_o1, o2.lo gl_o2, o3.lo gl_o3, o4.lo gl_o4, dL (a9 _ _ _ _) (show [] = _ from by show [] = (rC c).1; rw [e_C]), o7.lo gl_o7, hB⟩
          · -- no
            have hd6 := hc9
            try (simp only [Bool.and_eq_true, Bool.or_eq_true, decide_eq_true_eq, Bool.and_eq_false_iff, Bool.or_eq_false_iff, decide_eq_false_iff_not, Bool.not_eq_true', Bool.not_eq_false', Bool.not_eq_true, Bool.not_eq_false, ne_eq, Decidable.not_not, decide_true, decide_false, Bool.true_and, Bool.false_and, Bool.or_false, Bool.false_or, not_true_eq_false, false_or, or_false, true_and, and_true, not_false_eq_true, reduceCtorEq] at hd6)
            refine a8 ?_
            refine aY ?_
            refine cX ?_
            refine aY ?_
            refine aX ?_
            refine a4 (cL (idx := []) (xs := []) (vs := []) (css := []) (out := [_, _, _, _, _, _, _, _, _, _]) fM bM rfl rfl trivial rfl rfl) rfl ?_
            refine am (bU bM rfl rfl rfl (by simp only [List.forall_mem_cons]; exact ⟨rfl, rfl, rfl, rfl, rfl, rfl, rfl, rfl, rfl, rfl, fun v hv => by cases hv⟩) hb8 rfl) ?_
            rintro _ w39 ⟨hb17, k27, z17⟩
            replace rr := rr.keep k27 (fun x hx hm => (fun x (hx : w1.heap.size ≤ x ∧ x ≤ p1) => (show x ≠ b1 from by have h9 := hx.1; omega)) x hx (List.mem_singleton.1 hm))
            replace o1 := o1.keep k27 (fun x hx hm => sb_b1_o1 x hx (List.mem_singleton.1 hm))
            replace o2 := o2.keep k27 (fun x hx hm => sb_b1_o2 x hx (List.mem_singleton.1 hm))
            replace o3 := o3.keep k27 (fun x hx hm => sb_b1_o3 x hx (List.mem_singleton.1 hm))
            replace hb7 := hb7.keep k27 (nm (Ne.symm ne_b1_b2))
            replace o4 := o4.keep k27 (fun x hx hm => sb_b1_o4 x hx (List.mem_singleton.1 hm))
            replace o7 := o7.keep k27 (fun x hx hm => sb_b1_o7 x hx (List.mem_singleton.1 hm))
            replace hB := hB.new k27 (nw ge_b1)
            clear z17
            replace hb17 : Bk w39 b1 _ [.slice none 0 0, .int .i64 0, .int .i64 0, .int .i64 0, .slice none 0 0, .int .i64 0, .slice none 0 0, .int .i64 0, .slice none 0 0, .slice none 0 0] := hb17
            refine oga rfl rfl ?_
            refine oga rfl rfl ?_
            refine aZ ?_
            refine bB hfin Tryd.results10 rfl (ao cO bM hb17 rfl) rfl rfl ?_
            have hg : gpOkP c = false := by first | exact dt (by assumption) | exact du (by assumption) (by assumption)
            have eX : gpX c = fJ := by unfold gpX; rw [hg]; rfl
            have eT : gpT c = [] := by unfold gpT; rw [hg]; rfl
            have eF : gpF c = 21 := by unfold gpF; rw [hg]; rfl
            rw [eX, eT, eF]
            exact ⟨_, _, _, _, _, _, rfl, a9 _ _ _ _, a9 _ _ _ _, a9 _ _ _ _, a9 _ _ _ _, a9 _ _ _ _, a9 _ _ _ _, hB⟩
      · -- no
        refine a8 ?_
        refine aY ?_
        refine aY ?_
        refine aX ?_
        have e_T : rT c = ([], (rC c).2) := if_neg (by assumption)
        have rr : RdrG w21 w1.heap.size p1 (rT c).2.1 (rT c).2.2 := by rw [e_T]; exact rr
        refine ogm rfl rfl ?_
        refine a4 (bF rfl rfl) rfl ?_
        refine ogm rfl rfl ?_
        refine al 54 true rfl (fun c7 hgc7 => ?_)
        refine a5 [(5, _)] (aa rfl rfl rfl hgc7) ⟨au rfl, trivial⟩ (fun hw16 => av rfl) rfl ?_
        refine dl [(55, _)] (aa rfl rfl rfl hgc7) ⟨ae rfl, trivial⟩ (fun hw17 => a7 (vs := [_]) rfl (eM _ _ _ _ rr.rdr)) rfl ?_
        refine a5 [(56, _)] (aa rfl rfl rfl hgc7) ⟨ae rfl, trivial⟩ (fun hw18 => bF rfl rfl) rfl ?_
        refine a4 (ax rfl rfl hgc7) rfl ?_
        refine ogm rfl rfl ?_
        refine al 59 true rfl (fun c8 hgc8 => ?_)
        refine a5 [(2, _)] (aa rfl rfl rfl hgc8) ⟨au rfl, trivial⟩ (fun hw19 => an (cs' := [_, _, _, _, _, _, _, _, _, _]) cO bM rfl hb8 rfl rfl) rfl ?_
        refine cQ [(60, _)] (aa rfl rfl rfl hgc8) ⟨ae rfl, trivial⟩ (fun hw20 => a7 (vs := [_]) rfl (ci _ _ _ _ _ (rX c) _ o1.rd o2.rd o3.rd o4.rd (show RdB _ (.slice none 0 0) _ from by rw [show (rX c).cs = [] from by show (rC c).1 = []; rw [e_C]]; exact Rd.nil _ _))) rfl ?_
        rintro w41 k29
        replace rr := rr.lh k29
        replace o1 := o1.lh k29
        replace o2 := o2.lh k29
        replace o3 := o3.lh k29
        replace hb7 := hb7.lh k29
        replace o4 := o4.lh k29
        replace hb8 := hb8.lh k29
        replace hB := hB.trans k29
        refine a4 (ax rfl rfl hgc8) rfl ?_
        refine aZ ?_
        refine bH rfl (fun hc10 => ?_) (fun hc10 => ?_)
        · -- yes
          have hd7 := hc10
          try (simp only [Bool.and_eq_true, Bool.or_eq_true, decide_eq_true_eq, Bool.and_eq_false_iff, Bool.or_eq_false_iff, decide_eq_false_iff_not, Bool.not_eq_true', Bool.not_eq_false', Bool.not_eq_true, Bool.not_eq_false, ne_eq, Decidable.not_not, decide_true, decide_false, Bool.true_and, Bool.false_and, Bool.or_false, Bool.false_or, not_true_eq_false, false_or, or_false, true_and, and_true, not_false_eq_true, reduceCtorEq] at hd7)
          refine aY ?_
          refine aX ?_
          refine a4 (an (cs' := [_, _, _, _, _, _, _, _, _, _]) cO bM rfl hb8 rfl rfl) rfl ?_
          refine ogm rfl rfl ?_
          refine am (bU bM rfl rfl rfl (by simp only [List.forall_mem_cons]; exact ⟨o1.rd.one, rfl, rfl, rfl, o2.rd.one, rfl, o3.rd.one, rfl, o4.rd.one, rfl, fun v hv => by cases hv⟩) hb8 rfl) ?_
          rintro _ w42 ⟨hb18, k30, z18⟩
          replace rr := rr.keep k30 (fun x hx hm => (fun x (hx : w1.heap.size ≤ x ∧ x ≤ p1) => (show x ≠ b1 from by have h9 := hx.1; omega)) x hx (List.mem_singleton.1 hm))
          replace o1 := o1.keep k30 (fun x hx hm => sb_b1_o1 x hx (List.mem_singleton.1 hm))
          replace o2 := o2.keep k30 (fun x hx hm => sb_b1_o2 x hx (List.mem_singleton.1 hm))
          replace o3 := o3.keep k30 (fun x hx hm => sb_b1_o3 x hx (List.mem_singleton.1 hm))
          replace hb7 := hb7.keep k30 (nm (Ne.symm ne_b1_b2))
          replace o4 := o4.keep k30 (fun x hx hm => sb_b1_o4 x hx (List.mem_singleton.1 hm))
          replace hB := hB.new k30 (nw ge_b1)
          clear z18
          replace hb18 : Bk w42 b1 _ [v1, .int .i64 (rEp c).1, .int .i64 (rFr c).1, .int .i64 (rLf c).1, v2, .int .i64 (rKd c).1, v3, .int .i64 1, v4, .slice none 0 0] := hb18
          refine oga rfl rfl ?_
          refine oga rfl rfl ?_
          refine aZ ?_
          refine bB hfin Tryd.results10 rfl (ao cO bM hb18 rfl) rfl rfl ?_
          have hg : gpOkP c = true := by first | exact eI (by assumption) (by assumption) | exact eJ (by assumption) (by omega)
          have eX : gpX c = rX c := by unfold gpX; rw [hg]; rfl
          have eT : gpT c = (rT c).1 := by unfold gpT; rw [hg]; rfl
          have eF : gpF c = 0 := by unfold gpF; rw [hg]; rfl
          rw [eX, eT, eF]
          exact ⟨_, _, _, _, _, _, rfl, o1.lo gl_o1, o2.lo gl_o2, o3.lo gl_o3, o4.lo gl_o4, dL (a9 _ _ _ _) (show [] = _ from by show [] = (rC c).1; rw [e_C]), dL (a9 _ _ _ _) (show [] = _ from by rw [e_T]), hB⟩
        · -- no
          have hd8 := hc10
          try (simp only [Bool.and_eq_true, Bool.or_eq_true, decide_eq_true_eq, Bool.and_eq_false_iff, Bool.or_eq_false_iff, decide_eq_false_iff_not, Bool.not_eq_true', Bool.not_eq_false', Bool.not_eq_true, Bool.not_eq_false, ne_eq, Decidable.not_not, decide_true, decide_false, Bool.true_and, Bool.false_and, Bool.or_false, Bool.false_or, not_true_eq_false, false_or, or_false, true_and, and_true, not_false_eq_true, reduceCtorEq] at hd8)
          refine a8 ?_
          refine aY ?_
          refine cX ?_
          refine aY ?_
          refine aX ?_
          refine a4 (cL (idx := []) (xs := []) (vs := []) (css := []) (out := [_, _, _, _, _, _, _, _, _, _]) fM bM rfl rfl trivial rfl rfl) rfl ?_
          refine am (bU bM rfl rfl rfl (by simp only [List.forall_mem_cons]; exact ⟨rfl, rfl, rfl, rfl, rfl, rfl, rfl, rfl, rfl, rfl, fun v hv => by cases hv⟩) hb8 rfl) ?_
          rintro _ w43 ⟨hb19, k31, z19⟩
          replace rr := rr.keep k31 (fun x hx hm => (fun x (hx : w1.heap.size ≤ x ∧ x ≤ p1) => (show x ≠ b1 from by have h9 := hx.1; omega)) x hx (List.mem_singleton.1 hm))
          replace o1 := o1.keep k31 (fun x hx hm => sb_b1_o1 x hx (List.mem_singleton.1 hm))
          replace o2 := o2.keep k31 (fun x hx hm => sb_b1_o2 x hx (List.mem_singleton.1 hm))
          replace o3 := o3.keep k31 (fun x hx hm => sb_b1_o3 x hx (List.mem_singleton.1 hm))
          replace hb7 := hb7.keep k31 (nm (Ne.symm ne_b1_b2))
          replace o4 := o4.keep k31 (fun x hx hm => sb_b1_o4 x hx (List.mem_singleton.1 hm))
          replace hB := hB.new k31 (nw ge_b1)
          clear z19
          replace hb19 : Bk w43 b1 _ [.slice none 0 0, .int .i64 0, .int .i64 0, .int .i64 0, .slice none 0 0, .int .i64 0, .slice none 0 0, .int .i64 0, .slice none 0 0, .slice none 0 0] := hb19
          refine oga rfl rfl ?_
          refine oga rfl rfl ?_
          refine aZ ?_
          refine bB hfin Tryd.results10 rfl (ao cO bM hb19 rfl) rfl rfl ?_
          have hg : gpOkP c = false := by first | exact dt (by assumption) | exact du (by assumption) (by assumption)
          have eX : gpX c = fJ := by unfold gpX; rw [hg]; rfl
          have eT : gpT c = [] := by unfold gpT; rw [hg]; rfl
          have eF : gpF c = 21 := by unfold gpF; rw [hg]; rfl
          rw [eX, eT, eF]
          exact ⟨_, _, _, _, _, _, rfl, a9 _ _ _ _, a9 _ _ _ _, a9 _ _ _ _, a9 _ _ _ _, a9 _ _ _ _, a9 _ _ _ _, hB⟩
  · -- no
    refine a8 ?_
    refine aY ?_
    refine aX ?_
    refine ogm rfl rfl ?_
    have e_Lf : rLf c = (0, (rFr c).2) := if_neg (by assumption)
    have rr : RdrG w8 w1.heap.size p1 (rLf c).2.1 (rLf c).2.2 := by rw [e_Lf]; exact rr
    have e_lf0 : (rLf c).1 = 0 := by rw [e_Lf]
    replace hb3 : Bk w8 b2 28 [v1, .int .i64 (rEp c).1, .int .i64 (rFr c).1, .int .i64 (rLf c).1, .slice none 0 0, .int .i64 0, .slice none 0 0] := by rw [e_lf0]; exact hb3
    have lv_km13 := rr.lt
    refine ah (a7 (vs := [_]) rfl (bn p1 (rLf c).2.1 (rLf c).2.2 _ rr (by omega))) rfl ?_
    rintro v8 w44 ⟨_, rfl, o8, rr, km13⟩
    have gl_o8 := hB.size
    have sb_b1_o8 := fun x hx => (show x ≠ b1 from by have h1 := (o8.blk x hx).1; have h2 := hb1.lt; omega)
    have sb_b2_o8 := fun x hx => (show x ≠ b2 from by have h1 := (o8.blk x hx).1; have h2 := hb3.lt; omega)
    have z_km13 := km13.size
    replace hb1 := hb1.keep km13 (fun hm => by have h9 := List.mem_singleton.1 hm; omega)
    replace o1 := o1.keep km13 (fun x hx hm => by have h9 := List.mem_singleton.1 hm; have h8 := (o1.blk x hx).1; omega)
    replace hb3 := hb3.keep km13 (fun hm => by have h9 := List.mem_singleton.1 hm; omega)
    replace hB := hB.new km13 (fun x hm => .inl (by have h9 := List.mem_singleton.1 hm; omega))
    have rr : RdrG w44 w1.heap.size p1 (rM c).2.1 (rM c).2.2 := rr
    replace o8 : OwnB w44 w8.heap.size v8 (rM c).1 := o8
    refine ogm rfl rfl ?_
    have lv_km14 := rr.lt
    refine ah (a7 (vs := [_, _]) rfl (dF p1 (rM c).2.1 (rM c).2.2 1 _ rr (by decide))) rfl ?_
    rintro _ w45 ⟨q6, hq6, rfl, rr, km14⟩
    rw [show bitsOf 1 = 8 from by decide] at hq6
    subst hq6
    have z_km14 := km14.size
    replace hb1 := hb1.keep km14 (fun hm => by have h9 := List.mem_singleton.1 hm; omega)
    replace o1 := o1.keep km14 (fun x hx hm => by have h9 := List.mem_singleton.1 hm; have h8 := (o1.blk x hx).1; omega)
    replace hb3 := hb3.keep km14 (fun hm => by have h9 := List.mem_singleton.1 hm; omega)
    replace o8 := o8.keep km14 (fun x hx hm => by have h9 := List.mem_singleton.1 hm; have h8 := (o8.blk x hx).1; omega)
    replace hB := hB.new km14 (fun x hm => .inl (by have h9 := List.mem_singleton.1 hm; omega))
    have rr : RdrG w45 w1.heap.size p1 (rKd c).2.1 (rKd c).2.2 := rr
    show OW _ _ _ _ _ _ ((28, .int .i64 (rKd c).1) :: _) _
    refine ogm rfl rfl ?_
    have lv_km15 := rr.lt
    refine ah (a7 (vs := [_]) rfl (bn p1 (rKd c).2.1 (rKd c).2.2 _ rr (by omega))) rfl ?_
    rintro v9 w46 ⟨_, rfl, o9, rr, km15⟩
    have gl_o9 := hB.size
    have sb_b1_o9 := fun x hx => (show x ≠ b1 from by have h1 := (o9.blk x hx).1; have h2 := hb1.lt; omega)
    have sb_b2_o9 := fun x hx => (show x ≠ b2 from by have h1 := (o9.blk x hx).1; have h2 := hb3.lt; omega)
    have z_km15 := km15.size
    replace hb1 := hb1.keep km15 (fun hm => by have h9 := List.mem_singleton.1 hm; omega)
    replace o1 := o1.keep km15 (fun x hx hm => by have h9 := List.mem_singleton.1 hm; have h8 := (o1.blk x hx).1; omega)
    replace hb3 := hb3.keep km15 (fun hm => by have h9 := List.mem_singleton.1 hm; omega)
    replace o8 := o8.keep km15 (fun x hx hm => by have h9 := List.mem_singleton.1 hm; have h8 := (o8.blk x hx).1; omega)
    replace hB := hB.new km15 (fun x hm => .inl (by have h9 := List.mem_singleton.1 hm; omega))
    have rr : RdrG w46 w1.heap.size p1 (rB c).2.1 (rB c).2.2 := rr
    replace o9 : OwnB w46 w45.heap.size v9 (rB c).1 := o9
    refine a4 (aj 4 aD rfl az (by decide) rfl rfl) rfl ?_
    refine am (bQ az rfl rfl (Rd.one (by first | assumption | exact Own.rd (by assumption) | exact Rd.lh (by assumption) hB | exact Own.rd (Own.lh (by assumption) hB))) hb3 rfl) ?_
    rintro _ w47 ⟨hb20, k32, z20⟩
    replace hb1 := hb1.keep k32 (nm ne_b1_b2)
    replace rr := rr.keep k32 (fun x hx hm => (fun x (hx : w1.heap.size ≤ x ∧ x ≤ p1) => (show x ≠ b2 from by have h9 := hx.1; have h8 := hx.2; omega)) x hx (List.mem_singleton.1 hm))
    replace o1 := o1.keep k32 (fun x hx hm => sb_b2_o1 x hx (List.mem_singleton.1 hm))
    replace o8 := o8.keep k32 (fun x hx hm => sb_b2_o8 x hx (List.mem_singleton.1 hm))
    replace o9 := o9.keep k32 (fun x hx hm => sb_b2_o9 x hx (List.mem_singleton.1 hm))
    replace hB := hB.new k32 (nw ge_b2)
    clear z20
    replace hb20 : Bk w47 b2 _ [v1, .int .i64 (rEp c).1, .int .i64 (rFr c).1, .int .i64 (rLf c).1, v8, .int .i64 0, .slice none 0 0] := hb20
    refine a4 (aj 5 aD rfl bJ (by decide) rfl rfl) rfl ?_
    refine am (bQ bJ rfl rfl rfl hb20 rfl) ?_
    rintro _ w48 ⟨hb21, k33, z21⟩
    replace hb1 := hb1.keep k33 (nm ne_b1_b2)
    replace rr := rr.keep k33 (fun x hx hm => (fun x (hx : w1.heap.size ≤ x ∧ x ≤ p1) => (show x ≠ b2 from by have h9 := hx.1; have h8 := hx.2; omega)) x hx (List.mem_singleton.1 hm))
    replace o1 := o1.keep k33 (fun x hx hm => sb_b2_o1 x hx (List.mem_singleton.1 hm))
    replace o8 := o8.keep k33 (fun x hx hm => sb_b2_o8 x hx (List.mem_singleton.1 hm))
    replace o9 := o9.keep k33 (fun x hx hm => sb_b2_o9 x hx (List.mem_singleton.1 hm))
    replace hB := hB.new k33 (nw ge_b2)
    clear z21
    replace hb21 : Bk w48 b2 _ [v1, .int .i64 (rEp c).1, .int .i64 (rFr c).1, .int .i64 (rLf c).1, v8, .int .i64 (rKd c).1, .slice none 0 0] := hb21
    refine a4 (aj 6 aD rfl az (by decide) rfl rfl) rfl ?_
    refine am (bQ az rfl rfl (Rd.one (by first | assumption | exact Own.rd (by assumption) | exact Rd.lh (by assumption) hB | exact Own.rd (Own.lh (by assumption) hB))) hb21 rfl) ?_
    rintro _ w49 ⟨hb22, k34, z22⟩
    replace hb1 := hb1.keep k34 (nm ne_b1_b2)
    replace rr := rr.keep k34 (fun x hx hm => (fun x (hx : w1.heap.size ≤ x ∧ x ≤ p1) => (show x ≠ b2 from by have h9 := hx.1; have h8 := hx.2; omega)) x hx (List.mem_singleton.1 hm))
    replace o1 := o1.keep k34 (fun x hx hm => sb_b2_o1 x hx (List.mem_singleton.1 hm))
    replace o8 := o8.keep k34 (fun x hx hm => sb_b2_o8 x hx (List.mem_singleton.1 hm))
    replace o9 := o9.keep k34 (fun x hx hm => sb_b2_o9 x hx (List.mem_singleton.1 hm))
    replace hB := hB.new k34 (nw ge_b2)
    clear z22
    replace hb22 : Bk w49 b2 _ [v1, .int .i64 (rEp c).1, .int .i64 (rFr c).1, .int .i64 (rLf c).1, v8, .int .i64 (rKd c).1, v9] := hb22
    refine aZ ?_
    refine aY ?_
    refine cR 4 [0, 1, 2, 3] [2] [p1] [] mixed [(7, _), (5, _), (2, _), (0, _), (3, _), (4, _), (8, _), (9, _), (10, _), (11, _), (6, _), (12, _), (13, _), (14, _), (15, _), (16, _), (17, _), (18, _), (19, _), (20, _), (21, _), (25, _), (26, _), (27, _), (28, _), (29, _), (30, _), (31, _), (32, _), (33, _)] ⟨rfl, rfl, rfl, rfl, rfl, rfl, rfl, rfl, rfl, rfl, rfl, rfl, rfl, rfl, rfl, rfl, rfl, rfl, rfl, rfl, rfl, rfl, rfl, rfl, rfl, rfl, rfl, rfl, rfl, rfl, trivial⟩ (by decide +kernel) (by decide) (by decide) ?_ (fun x hx => by have h9 := List.mem_singleton.1 hx; have := rr.lt; omega) rfl (fun w50 k35 => ?_)
    · intro q hq; cases hq
    replace hb1 := hb1.lh k35
    replace rr := rr.lh k35
    replace o1 := o1.lh k35
    replace o8 := o8.lh k35
    replace o9 := o9.lh k35
    replace hb22 := hb22.lh k35
    replace hB := hB.trans k35
    refine bY 7 rfl rfl rfl rfl (fun W' kk => an (cs' := [_, _, _, _, _, _, _]) fx dd rfl (Bk.keep hb22 kk (by simp only [List.mem_cons, List.not_mem_nil, or_false]; first | assumption | (apply Ne.symm; assumption) | omega)) rfl rfl) ?_
    refine cM 5 rfl rfl rfl rfl rfl ?_
    refine ix [(35, _)] rfl rfl ⟨rfl, trivial⟩ rfl (fun w51 k36 => ?_)
    replace hb1 := hb1.lh k36
    replace rr := rr.lh k36
    replace o1 := o1.lh k36
    replace o8 := o8.lh k36
    replace o9 := o9.lh k36
    replace hb22 := hb22.lh k36
    replace hB := hB.trans k36
    have lv_km16 := rr.lt
    refine (a7 (vs := [_]) rfl (bn p1 (rB c).2.1 (rB c).2.2 _ rr (by omega))).mono ?_
    rintro v10 w52 ⟨_, rfl, o10, rr, km16⟩
    have gl_o10 := hB.size
    have sb_b1_o10 := fun x hx => (show x ≠ b1 from by have h1 := (o10.blk x hx).1; have h2 := hb1.lt; omega)
    have z_km16 := km16.size
    replace hb1 := hb1.keep km16 (fun hm => by have h9 := List.mem_singleton.1 hm; omega)
    replace o1 := o1.keep km16 (fun x hx hm => by have h9 := List.mem_singleton.1 hm; have h8 := (o1.blk x hx).1; omega)
    replace o8 := o8.keep km16 (fun x hx hm => by have h9 := List.mem_singleton.1 hm; have h8 := (o8.blk x hx).1; omega)
    replace o9 := o9.keep km16 (fun x hx hm => by have h9 := List.mem_singleton.1 hm; have h8 := (o9.blk x hx).1; omega)
    replace hb22 := hb22.keep km16 (fun hm => by have h9 := List.mem_singleton.1 hm; omega)
    replace hB := hB.new km16 (fun x hm => .inl (by have h9 := List.mem_singleton.1 hm; omega))
    refine ⟨km16, (fun x hx => ⟨.inr (o10.blk x (o10.rd.cblk ▸ hx)).1, (o10.blk x (o10.rd.cblk ▸ hx)).2⟩), ?_⟩
    have rr : RdrG w52 w1.heap.size p1 (rS c).2.1 (rS c).2.2 := rr
    replace o10 : OwnB w52 w51.heap.size v10 (rS c).1 := o10
    refine cZ 34 36 rfl rfl rfl rfl rfl (fun W' kk => cL (idx := [0, 1, 2]) (xs := [.tmp 34, .const (.int .i64 1), .tmp 36]) (vs := [_, _, _]) (css := [[v1, .int .i64 (rEp c).1, .int .i64 (rFr c).1, .int .i64 (rLf c).1, v8, .int .i64 (rKd c).1, v9], [.int .i64 1], [v10]]) (out := [v1, .int .i64 (rEp c).1, .int .i64 (rFr c).1, .int .i64 (rLf c).1, v8, .int .i64 (rKd c).1, v9, .int .i64 1, v10, .slice none 0 0]) fM bM rfl rfl ⟨rfl, rfl, Rd.cells (Own.rd o10), trivial⟩ rfl rfl) ?_
    refine dc (fun w53 k37 => ?_)
    replace hb1 := hb1.lh k37
    replace rr := rr.lh k37
    replace o1 := o1.lh k37
    replace o8 := o8.lh k37
    replace o9 := o9.lh k37
    replace hb22 := hb22.lh k37
    replace o10 := o10.lh k37
    replace hB := hB.trans k37
    refine cT ?_
    refine am (bU bM rfl rfl rfl (by simp only [List.forall_mem_cons]; exact ⟨o1.rd.one, rfl, rfl, rfl, o8.rd.one, rfl, o9.rd.one, rfl, o10.rd.one, rfl, fun v hv => by cases hv⟩) hb1 rfl) ?_
    rintro _ w54 ⟨hb23, k38, z23⟩
    replace rr := rr.keep k38 (fun x hx hm => (fun x (hx : w1.heap.size ≤ x ∧ x ≤ p1) => (show x ≠ b1 from by have h9 := hx.1; omega)) x hx (List.mem_singleton.1 hm))
    replace o1 := o1.keep k38 (fun x hx hm => sb_b1_o1 x hx (List.mem_singleton.1 hm))
    replace o8 := o8.keep k38 (fun x hx hm => sb_b1_o8 x hx (List.mem_singleton.1 hm))
    replace o9 := o9.keep k38 (fun x hx hm => sb_b1_o9 x hx (List.mem_singleton.1 hm))
    replace hb22 := hb22.keep k38 (nm (Ne.symm ne_b1_b2))
    replace o10 := o10.keep k38 (fun x hx hm => sb_b1_o10 x hx (List.mem_singleton.1 hm))
    replace hB := hB.new k38 (nw ge_b1)
    clear z23
    replace hb23 : Bk w54 b1 _ [v1, .int .i64 (rEp c).1, .int .i64 (rFr c).1, .int .i64 (rLf c).1, v8, .int .i64 (rKd c).1, v9, .int .i64 1, v10, .slice none 0 0] := hb23
    refine aZ ?_
    refine aY ?_
    refine aY ?_
    refine aX ?_
    refine a4 (aj 5 aD rfl bJ (by decide) rfl rfl) rfl ?_
    refine a4 (ac bZ rfl hb22 rfl) rfl ?_
    refine a4 (bF rfl rfl) rfl ?_
    refine aZ ?_
    refine ar rfl (fun hc11 => ?_) (fun hc11 => ?_)
    · -- yes
      refine aX ?_
      refine ogm rfl rfl ?_
      have lv_km17 := rr.lt
      refine ah (a7 (vs := [_]) rfl (bn p1 (rS c).2.1 (rS c).2.2 _ rr (by omega))) rfl ?_
      rintro v11 w55 ⟨_, rfl, o11, rr, km17⟩
      have gl_o11 := hB.size
      have sb_b1_o11 := fun x hx => (show x ≠ b1 from by have h1 := (o11.blk x hx).1; have h2 := hb23.lt; omega)
      have z_km17 := km17.size
      replace o1 := o1.keep km17 (fun x hx hm => by have h9 := List.mem_singleton.1 hm; have h8 := (o1.blk x hx).1; omega)
      replace o8 := o8.keep km17 (fun x hx hm => by have h9 := List.mem_singleton.1 hm; have h8 := (o8.blk x hx).1; omega)
      replace o9 := o9.keep km17 (fun x hx hm => by have h9 := List.mem_singleton.1 hm; have h8 := (o9.blk x hx).1; omega)
      replace hb22 := hb22.keep km17 (fun hm => by have h9 := List.mem_singleton.1 hm; omega)
      replace o10 := o10.keep km17 (fun x hx hm => by have h9 := List.mem_singleton.1 hm; have h8 := (o10.blk x hx).1; omega)
      replace hb23 := hb23.keep km17 (fun hm => by have h9 := List.mem_singleton.1 hm; omega)
      replace hB := hB.new km17 (fun x hm => .inl (by have h9 := List.mem_singleton.1 hm; omega))
      have e_C : rC c = rVec (rS c).2.1 (rS c).2.2 := if_pos (by assumption)
      have rr : RdrG w55 w1.heap.size p1 (rC c).2.1 (rC c).2.2 := by rw [e_C]; exact rr
      replace o11 : OwnB w55 w54.heap.size v11 (rC c).1 := by rw [e_C]; exact o11
      refine a4 (aj 9 aN rfl az (by decide) rfl rfl) rfl ?_
      refine am (bQ az rfl rfl (Rd.one (by first | assumption | exact Own.rd (by assumption) | exact Rd.lh (by assumption) hB | exact Own.rd (Own.lh (by assumption) hB))) hb23 rfl) ?_
      rintro _ w56 ⟨hb24, k39, z24⟩
      replace rr := rr.keep k39 (fun x hx hm => (fun x (hx : w1.heap.size ≤ x ∧ x ≤ p1) => (show x ≠ b1 from by have h9 := hx.1; omega)) x hx (List.mem_singleton.1 hm))
      replace o1 := o1.keep k39 (fun x hx hm => sb_b1_o1 x hx (List.mem_singleton.1 hm))
      replace o8 := o8.keep k39 (fun x hx hm => sb_b1_o8 x hx (List.mem_singleton.1 hm))
      replace o9 := o9.keep k39 (fun x hx hm => sb_b1_o9 x hx (List.mem_singleton.1 hm))
      replace hb22 := hb22.keep k39 (nm (Ne.symm ne_b1_b2))
      replace o10 := o10.keep k39 (fun x hx hm => sb_b1_o10 x hx (List.mem_singleton.1 hm))
      replace o11 := o11.keep k39 (fun x hx hm => sb_b1_o11 x hx (List.mem_singleton.1 hm))
      replace hB := hB.new k39 (nw ge_b1)
      clear z24
      replace hb24 : Bk w56 b1 _ [v1, .int .i64 (rEp c).1, .int .i64 (rFr c).1, .int .i64 (rLf c).1, v8, .int .i64 (rKd c).1, v9, .int .i64 1, v10, v11] := hb24
      refine aZ ?_
      refine aY ?_
      refine aY ?_
      refine aX ?_
      refine a4 (aj 2 aD rfl bJ (by decide) rfl rfl) rfl ?_
      refine a4 (ac bZ rfl hb22 rfl) rfl ?_
      refine a4 (bF rfl rfl) rfl ?_
      refine aZ ?_
      refine ar rfl (fun hc12 => ?_) (fun hc12 => ?_)
      · -- yes
        refine aY ?_
        refine aX ?_
        refine ogm rfl rfl ?_
        have lv_km18 := rr.lt
        refine ah (a7 (vs := [_]) rfl (bn p1 (rC c).2.1 (rC c).2.2 _ rr (by omega))) rfl ?_
        rintro v12 w57 ⟨_, rfl, o12, rr, km18⟩
        have gl_o12 := hB.size
        have sb_b1_o12 := fun x hx => (show x ≠ b1 from by have h1 := (o12.blk x hx).1; have h2 := hb24.lt; omega)
        have z_km18 := km18.size
        replace o1 := o1.keep km18 (fun x hx hm => by have h9 := List.mem_singleton.1 hm; have h8 := (o1.blk x hx).1; omega)
        replace o8 := o8.keep km18 (fun x hx hm => by have h9 := List.mem_singleton.1 hm; have h8 := (o8.blk x hx).1; omega)
        replace o9 := o9.keep km18 (fun x hx hm => by have h9 := List.mem_singleton.1 hm; have h8 := (o9.blk x hx).1; omega)
        replace hb22 := hb22.keep km18 (fun hm => by have h9 := List.mem_singleton.1 hm; omega)
        replace o10 := o10.keep km18 (fun x hx hm => by have h9 := List.mem_singleton.1 hm; have h8 := (o10.blk x hx).1; omega)
        replace o11 := o11.keep km18 (fun x hx hm => by have h9 := List.mem_singleton.1 hm; have h8 := (o11.blk x hx).1; omega)
        replace hb24 := hb24.keep km18 (fun hm => by have h9 := List.mem_singleton.1 hm; omega)
        replace hB := hB.new km18 (fun x hm => .inl (by have h9 := List.mem_singleton.1 hm; omega))
        have e_T : rT c = rVec (rC c).2.1 (rC c).2.2 := if_pos (by assumption)
        have rr : RdrG w57 w1.heap.size p1 (rT c).2.1 (rT c).2.2 := by rw [e_T]; exact rr
        replace o12 : OwnB w57 w56.heap.size v12 (rT c).1 := by rw [e_T]; exact o12
        refine oga rfl rfl ?_
        refine aZ ?_
        refine aY ?_
        refine aX ?_
        refine ogm rfl rfl ?_
        refine a4 (bI aA rfl o12.rd) rfl ?_
        refine a4 (cC rfl rfl) rfl ?_
        refine aZ ?_
        refine ar rfl (fun hc13 => ?_) (fun hc13 => ?_)
        · -- yes
          refine cU rfl ?_
          refine aY ?_
          refine a8 ?_
          refine aY ?_
          refine aX ?_
          refine a4 (cL (idx := []) (xs := []) (vs := []) (css := []) (out := [_, _, _, _, _, _, _, _, _, _]) fM bM rfl rfl trivial rfl rfl) rfl ?_
          refine am (bU bM rfl rfl rfl (by simp only [List.forall_mem_cons]; exact ⟨rfl, rfl, rfl, rfl, rfl, rfl, rfl, rfl, rfl, rfl, fun v hv => by cases hv⟩) hb24 rfl) ?_
          rintro _ w58 ⟨hb25, k40, z25⟩
          replace rr := rr.keep k40 (fun x hx hm => (fun x (hx : w1.heap.size ≤ x ∧ x ≤ p1) => (show x ≠ b1 from by have h9 := hx.1; omega)) x hx (List.mem_singleton.1 hm))
          replace o1 := o1.keep k40 (fun x hx hm => sb_b1_o1 x hx (List.mem_singleton.1 hm))
          replace o8 := o8.keep k40 (fun x hx hm => sb_b1_o8 x hx (List.mem_singleton.1 hm))
          replace o9 := o9.keep k40 (fun x hx hm => sb_b1_o9 x hx (List.mem_singleton.1 hm))
          replace hb22 := hb22.keep k40 (nm (Ne.symm ne_b1_b2))
          replace o10 := o10.keep k40 (fun x hx hm => sb_b1_o10 x hx (List.mem_singleton.1 hm))
          replace o11 := o11.keep k40 (fun x hx hm => sb_b1_o11 x hx (List.mem_singleton.1 hm))
          replace o12 := o12.keep k40 (fun x hx hm => sb_b1_o12 x hx (List.mem_singleton.1 hm))
          replace hB := hB.new k40 (nw ge_b1)
          clear z25
          replace hb25 : Bk w58 b1 _ [.slice none 0 0, .int .i64 0, .int .i64 0, .int .i64 0, .slice none 0 0, .int .i64 0, .slice none 0 0, .int .i64 0, .slice none 0 0, .slice none 0 0] := hb25
          refine oga rfl rfl ?_
          refine oga rfl rfl ?_
          refine aZ ?_
          refine bB hfin Tryd.results10 rfl (ao cO bM hb25 rfl) rfl rfl ?_
          have hg : gpOkP c = false := by first | exact dt (by assumption) | exact du (by assumption) (by assumption)
          have eX : gpX c = fJ := by unfold gpX; rw [hg]; rfl
          have eT : gpT c = [] := by unfold gpT; rw [hg]; rfl
          have eF : gpF c = 21 := by unfold gpF; rw [hg]; rfl
          rw [eX, eT, eF]
          exact ⟨_, _, _, _, _, _, rfl, a9 _ _ _ _, a9 _ _ _ _, a9 _ _ _ _, a9 _ _ _ _, a9 _ _ _ _, a9 _ _ _ _, hB⟩
        · -- no
          refine a8 ?_
          refine aY ?_
          refine aY ?_
          refine aX ?_
          refine ogm rfl rfl ?_
          refine a4 (bF rfl rfl) rfl ?_
          refine ogm rfl rfl ?_
          refine al 54 true rfl (fun c9 hgc9 => ?_)
          refine a5 [(5, _)] (aa rfl rfl rfl hgc9) ⟨au rfl, trivial⟩ (fun hw21 => av rfl) rfl ?_
          refine dl [(55, _)] (aa rfl rfl rfl hgc9) ⟨ae rfl, trivial⟩ (fun hw22 => a7 (vs := [_]) rfl (eM _ _ _ _ rr.rdr)) rfl ?_
          refine a5 [(56, _)] (aa rfl rfl rfl hgc9) ⟨ae rfl, trivial⟩ (fun hw23 => bF rfl rfl) rfl ?_
          refine a4 (ax rfl rfl hgc9) rfl ?_
          refine ogm rfl rfl ?_
          refine al 59 true rfl (fun c10 hgc10 => ?_)
          refine a5 [(2, _)] (aa rfl rfl rfl hgc10) ⟨au rfl, trivial⟩ (fun hw24 => an (cs' := [_, _, _, _, _, _, _, _, _, _]) cO bM rfl hb24 rfl rfl) rfl ?_
          refine cQ [(60, _)] (aa rfl rfl rfl hgc10) ⟨ae rfl, trivial⟩ (fun hw25 => a7 (vs := [_]) rfl (ci _ _ _ _ _ (rX c) _ o1.rd o8.rd o9.rd o10.rd o11.rd)) rfl ?_
          rintro w60 k42
          replace rr := rr.lh k42
          replace o1 := o1.lh k42
          replace o8 := o8.lh k42
          replace o9 := o9.lh k42
          replace hb22 := hb22.lh k42
          replace o10 := o10.lh k42
          replace o11 := o11.lh k42
          replace hb24 := hb24.lh k42
          replace o12 := o12.lh k42
          replace hB := hB.trans k42
          refine a4 (ax rfl rfl hgc10) rfl ?_
          refine aZ ?_
          refine bH rfl (fun hc14 => ?_) (fun hc14 => ?_)
          · -- yes
            have hd9 := hc14
            try (simp only [Bool.and_eq_true, Bool.or_eq_true, decide_eq_true_eq, Bool.and_eq_false_iff, Bool.or_eq_false_iff, decide_eq_false_iff_not, Bool.not_eq_true', Bool.not_eq_false', Bool.not_eq_true, Bool.not_eq_false, ne_eq, Decidable.not_not, decide_true, decide_false, Bool.true_and, Bool.false_and, Bool.or_false, Bool.false_or, not_true_eq_false, false_or, or_false, true_and, and_true, not_false_eq_true, reduceCtorEq] at hd9)
            refine aY ?_
            refine aX ?_
            refine a4 (an (cs' := [_, _, _, _, _, _, _, _, _, _]) cO bM rfl hb24 rfl rfl) rfl ?_
            refine ogm rfl rfl ?_
            refine am (bU bM rfl rfl rfl (by simp only [List.forall_mem_cons]; exact ⟨o1.rd.one, rfl, rfl, rfl, o8.rd.one, rfl, o9.rd.one, rfl, o10.rd.one, o11.rd.one, fun v hv => by cases hv⟩) hb24 rfl) ?_
            rintro _ w61 ⟨hb26, k43, z26⟩
            replace rr := rr.keep k43 (fun x hx hm => (fun x (hx : w1.heap.size ≤ x ∧ x ≤ p1) => (show x ≠ b1 from by have h9 := hx.1; omega)) x hx (List.mem_singleton.1 hm))
            replace o1 := o1.keep k43 (fun x hx hm => sb_b1_o1 x hx (List.mem_singleton.1 hm))
            replace o8 := o8.keep k43 (fun x hx hm => sb_b1_o8 x hx (List.mem_singleton.1 hm))
            replace o9 := o9.keep k43 (fun x hx hm => sb_b1_o9 x hx (List.mem_singleton.1 hm))
            replace hb22 := hb22.keep k43 (nm (Ne.symm ne_b1_b2))
            replace o10 := o10.keep k43 (fun x hx hm => sb_b1_o10 x hx (List.mem_singleton.1 hm))
            replace o11 := o11.keep k43 (fun x hx hm => sb_b1_o11 x hx (List.mem_singleton.1 hm))
            replace o12 := o12.keep k43 (fun x hx hm => sb_b1_o12 x hx (List.mem_singleton.1 hm))
            replace hB := hB.new k43 (nw ge_b1)
            clear z26
            replace hb26 : Bk w61 b1 _ [v1, .int .i64 (rEp c).1, .int .i64 (rFr c).1, .int .i64 (rLf c).1, v8, .int .i64 (rKd c).1, v9, .int .i64 1, v10, v11] := hb26
            refine oga rfl rfl ?_
            refine oga rfl rfl ?_
            refine aZ ?_
            refine bB hfin Tryd.results10 rfl (ao cO bM hb26 rfl) rfl rfl ?_
            have hg : gpOkP c = true := by first | exact eI (by assumption) (by assumption) | exact eJ (by assumption) (by omega)
            have eX : gpX c = rX c := by unfold gpX; rw [hg]; rfl
            have eT : gpT c = (rT c).1 := by unfold gpT; rw [hg]; rfl
            have eF : gpF c = 0 := by unfold gpF; rw [hg]; rfl
            rw [eX, eT, eF]
            exact ⟨_, _, _, _, _, _, rfl, o1.lo gl_o1, o8.lo gl_o8, o9.lo gl_o9, o10.lo gl_o10, o11.lo gl_o11, o12.lo gl_o12, hB⟩
          · -- no
            have hd10 := hc14
            try (simp only [Bool.and_eq_true, Bool.or_eq_true, decide_eq_true_eq, Bool.and_eq_false_iff, Bool.or_eq_false_iff, decide_eq_false_iff_not, Bool.not_eq_true', Bool.not_eq_false', Bool.not_eq_true, Bool.not_eq_false, ne_eq, Decidable.not_not, decide_true, decide_false, Bool.true_and, Bool.false_and, Bool.or_false, Bool.false_or, not_true_eq_false, false_or, or_false, true_and, and_true, not_false_eq_true, reduceCtorEq] at hd10)
            refine a8 ?_
            refine aY ?_
            refine cX ?_
            refine aY ?_
            refine aX ?_
            refine a4 (cL (idx := []) (xs := []) (vs := []) (css := []) (out := [_, _, _, _, _, _, _, _, _, _]) fM bM rfl rfl trivial rfl rfl) rfl ?_
            refine am (bU bM rfl rfl rfl (by simp only [List.forall_mem_cons]; exact ⟨rfl, rfl, rfl, rfl, rfl, rfl, rfl, rfl, rfl, rfl, fun v hv => by cases hv⟩) hb24 rfl) ?_
            rintro _ w62 ⟨hb27, k44, z27⟩
            replace rr := rr.keep k44 (fun x hx hm => (fun x (hx : w1.heap.size ≤ x ∧ x ≤ p1) => (show x ≠ b1 from by have h9 := hx.1; omega)) x hx (List.mem_singleton.1 hm))
            replace o1 := o1.keep k44 (fun x hx hm => sb_b1_o1 x hx (List.mem_singleton.1 hm))
            replace o8 := o8.keep k44 (fun x hx hm => sb_b1_o8 x hx (List.mem_singleton.1 hm))
            replace o9 := o9.keep k44 (fun x hx hm => sb_b1_o9 x hx (List.mem_singleton.1 hm))
            replace hb22 := hb22.keep k44 (nm (Ne.symm ne_b1_b2))
            replace o10 := o10.keep k44 (fun x hx hm => sb_b1_o10 x hx (List.mem_singleton.1 hm))
            replace o11 := o11.keep k44 (fun x hx hm => sb_b1_o11 x hx (List.mem_singleton.1 hm))
            replace o12 := o12.keep k44 (fun x hx hm => sb_b1_o12 x hx (List.mem_singleton.1 hm))
            replace hB := hB.new k44 (nw ge_b1)
            clear z27
            replace hb27 : Bk w62 b1 _ [.slice none 0 0, .int .i64 0, .int .i64 0, .int .i64 0, .slice none 0 0, .int .i64 0, .slice none 0 0, .int .i64 0, .slice none 0 0, .slice none 0 0] := hb27
            refine oga rfl rfl ?_
            refine oga rfl rfl ?_
            refine aZ ?_
            refine bB hfin Tryd.results10 rfl (ao cO bM hb27 rfl) rfl rfl ?_
            have hg : gpOkP c = false := by first | exact dt (by assumption) | exact du (by assumption) (by assumption)
            have eX : gpX c = fJ := by unfold gpX; rw [hg]; rfl
            have eT : gpT c = [] := by unfold gpT; rw [hg]; rfl
            have eF : gpF c = 21 := by unfold gpF; rw [hg]; rfl
            rw [eX, eT, eF]
            exact ⟨_, _, _, _, _, _, rfl, a9 _ _ _ _, a9 _ _ _ _, a9 _ _ _ _, a9 _ _ _ _, a9 _ _ _ _, a9 _ _ _ _, hB⟩
      · -- no
        refine a8 ?_
        refine aY ?_
        refine aY ?_
        refine aX ?_
        have e_T : rT c = ([], (rC c).2) := if_neg (by assumption)
        have rr : RdrG w56 w1.heap.size p1 (rT c).2.1 (rT c).2.2 := by rw [e_T]; exact rr
        refine ogm rfl rfl ?_
        refine a4 (bF rfl rfl) rfl ?_
        refine ogm rfl rfl ?_
        refine al 54 true rfl (fun c11 hgc11 => ?_)
        refine a5 [(5, _)] (aa rfl rfl rfl hgc11) ⟨au rfl, trivial⟩ (fun hw26 => av rfl) rfl ?_
        refine dl [(55, _)] (aa rfl rfl rfl hgc11) ⟨ae rfl, trivial⟩ (fun hw27 => a7 (vs := [_]) rfl (eM _ _ _ _ rr.rdr)) rfl ?_
        refine a5 [(56, _)] (aa rfl rfl rfl hgc11) ⟨ae rfl, trivial⟩ (fun hw28 => bF rfl rfl) rfl ?_
        refine a4 (ax rfl rfl hgc11) rfl ?_
        refine ogm rfl rfl ?_
        refine al 59 true rfl (fun c12 hgc12 => ?_)
        refine a5 [(2, _)] (aa rfl rfl rfl hgc12) ⟨au rfl, trivial⟩ (fun hw29 => an (cs' := [_, _, _, _, _, _, _, _, _, _]) cO bM rfl hb24 rfl rfl) rfl ?_
        refine cQ [(60, _)] (aa rfl rfl rfl hgc12) ⟨ae rfl, trivial⟩ (fun hw30 => a7 (vs := [_]) rfl (ci _ _ _ _ _ (rX c) _ o1.rd o8.rd o9.rd o10.rd o11.rd)) rfl ?_
        rintro w64 k46
        replace rr := rr.lh k46
        replace o1 := o1.lh k46
        replace o8 := o8.lh k46
        replace o9 := o9.lh k46
        replace hb22 := hb22.lh k46
        replace o10 := o10.lh k46
        replace o11 := o11.lh k46
        replace hb24 := hb24.lh k46
        replace hB := hB.trans k46
        refine a4 (ax rfl rfl hgc12) rfl ?_
        refine aZ ?_
        refine bH rfl (fun hc15 => ?_) (fun hc15 => ?_)
        · -- yes
          have hd11 := hc15
          try (simp only [Bool.and_eq_true, Bool.or_eq_true, decide_eq_true_eq, Bool.and_eq_false_iff, Bool.or_eq_false_iff, decide_eq_false_iff_not, Bool.not_eq_true', Bool.not_eq_false', Bool.not_eq_true, Bool.not_eq_false, ne_eq, Decidable.not_not, decide_true, decide_false, Bool.true_and, Bool.false_and, Bool.or_false, Bool.false_or, not_true_eq_false, false_or, or_false, true_and, and_true, not_false_eq_true, reduceCtorEq] at hd11)
          refine aY ?_
          refine aX ?_
          refine a4 (an (cs' := [_, _, _, _, _, _, _, _, _, _]) cO bM rfl hb24 rfl rfl) rfl ?_
          refine ogm rfl rfl ?_
          refine am (bU bM rfl rfl rfl (by simp only [List.forall_mem_cons]; exact ⟨o1.rd.one, rfl, rfl, rfl, o8.rd.one, rfl, o9.rd.one, rfl, o10.rd.one, o11.rd.one, fun v hv => by cases hv⟩) hb24 rfl) ?_
          rintro _ w65 ⟨hb28, k47, z28⟩
          replace rr := rr.keep k47 (fun x hx hm => (fun x (hx : w1.heap.size ≤ x ∧ x ≤ p1) => (show x ≠ b1 from by have h9 := hx.1; omega)) x hx (List.mem_singleton.1 hm))
          replace o1 := o1.keep k47 (fun x hx hm => sb_b1_o1 x hx (List.mem_singleton.1 hm))
          replace o8 := o8.keep k47 (fun x hx hm => sb_b1_o8 x hx (List.mem_singleton.1 hm))
          replace o9 := o9.keep k47 (fun x hx hm => sb_b1_o9 x hx (List.mem_singleton.1 hm))
          replace hb22 := hb22.keep k47 (nm (Ne.symm ne_b1_b2))
          replace o10 := o10.keep k47 (fun x hx hm => sb_b1_o10 x hx (List.mem_singleton.1 hm))
          replace o11 := o11.keep k47 (fun x hx hm => sb_b1_o11 x hx (List.mem_singleton.1 hm))
          replace hB := hB.new k47 (nw ge_b1)
          clear z28
          replace hb28 : Bk w65 b1 _ [v1, .int .i64 (rEp c).1, .int .i64 (rFr c).1, .int .i64 (rLf c).1, v8, .int .i64 (rKd c).1, v9, .int .i64 1, v10, v11] := hb28
          refine oga rfl rfl ?_
          refine oga rfl rfl ?_
          refine aZ ?_
          refine bB hfin Tryd.results10 rfl (ao cO bM hb28 rfl) rfl rfl ?_
          have hg : gpOkP c = true := by first | exact eI (by assumption) (by assumption) | exact eJ (by assumption) (by omega)
          have eX : gpX c = rX c := by unfold gpX; rw [hg]; rfl
          have eT : gpT c = (rT c).1 := by unfold gpT; rw [hg]; rfl
          have eF : gpF c = 0 := by unfold gpF; rw [hg]; rfl
          rw [eX, eT, eF]
          exact ⟨_, _, _, _, _, _, rfl, o1.lo gl_o1, o8.lo gl_o8, o9.lo gl_o9, o10.lo gl_o10, o11.lo gl_o11, dL (a9 _ _ _ _) (show [] = _ from by rw [e_T]), hB⟩
        · -- no
          have hd12 := hc15
          try (simp only [Bool.and_eq_true, Bool.or_eq_true, decide_eq_true_eq, Bool.and_eq_false_iff, Bool.or_eq_false_iff, decide_eq_false_iff_not, Bool.not_eq_true', Bool.not_eq_false', Bool.not_eq_true, Bool.not_eq_false, ne_eq, Decidable.not_not, decide_true, decide_false, Bool.true_and, Bool.false_and, Bool.or_false, Bool.false_or, not_true_eq_false, false_or, or_false, true_and, and_true, not_false_eq_true, reduceCtorEq] at hd12)
          refine a8 ?_
          refine aY ?_
          refine cX ?_
          refine aY ?_
          refine aX ?_
          refine a4 (cL (idx := []) (xs := []) (vs := []) (css := []) (out := [_, _, _, _, _, _, _, _, _, _]) fM bM rfl rfl trivial rfl rfl) rfl ?_
          refine am (bU bM rfl rfl rfl (by simp only [List.forall_mem_cons]; exact ⟨rfl, rfl, rfl, rfl, rfl, rfl, rfl, rfl, rfl, rfl, fun v hv => by cases hv⟩) hb24 rfl) ?_
          rintro _ w66 ⟨hb29, k48, z29⟩
          replace rr := rr.keep k48 (fun x hx hm => (fun x (hx : w1.heap.size ≤ x ∧ x ≤ p1) => (show x ≠ b1 from by have h9 := hx.1; omega)) x hx (List.mem_singleton.1 hm))
          replace o1 := o1.keep k48 (fun x hx hm => sb_b1_o1 x hx (List.mem_singleton.1 hm))
          replace o8 := o8.keep k48 (fun x hx hm => sb_b1_o8 x hx (List.mem_singleton.1 hm))
          replace o9 := o9.keep k48 (fun x hx hm => sb_b1_o9 x hx (List.mem_singleton.1 hm))
          replace hb22 := hb22.keep k48 (nm (Ne.symm ne_b1_b2))
          replace o10 := o10.keep k48 (fun x hx hm => sb_b1_o10 x hx (List.mem_singleton.1 hm))
          replace o11 := o11.keep k48 (fun x hx hm => sb_b1_o11 x hx (List.mem_singleton.1 hm))
          replace hB := hB.new k48 (nw ge_b1)
          clear z29
          replace hb29 : Bk w66 b1 _ [.slice none 0 0, .int .i64 0, .int .i64 0, .int .i64 0, .slice none 0 0, .int .i64 0, .slice none 0 0, .int .i64 0, .slice none 0 0, .slice none 0 0] := hb29
          refine oga rfl rfl ?_
          refine oga rfl rfl ?_
          refine aZ ?_
          refine bB hfin Tryd.results10 rfl (ao cO bM hb29 rfl) rfl rfl ?_
          have hg : gpOkP c = false := by first | exact dt (by assumption) | exact du (by assumption) (by assumption)
          have eX : gpX c = fJ := by unfold gpX; rw [hg]; rfl
          have eT : gpT c = [] := by unfold gpT; rw [hg]; rfl
          have eF : gpF c = 21 := by unfold gpF; rw [hg]; rfl
          rw [eX, eT, eF]
          exact ⟨_, _, _, _, _, _, rfl, a9 _ _ _ _, a9 _ _ _ _, a9 _ _ _ _, a9 _ _ _ _, a9 _ _ _ _, a9 _ _ _ _, hB⟩
    · -- no
      refine a8 ?_
      refine aY ?_
      refine aY ?_
      refine aX ?_
      have e_C : rC c = ([], (rS c).2) := if_neg (by assumption)
      have rr : RdrG w54 w1.heap.size p1 (rC c).2.1 (rC c).2.2 := by rw [e_C]; exact rr
      refine a4 (aj 2 aD rfl bJ (by decide) rfl rfl) rfl ?_
      refine a4 (ac bZ rfl hb22 rfl) rfl ?_
      refine a4 (bF rfl rfl) rfl ?_
      refine aZ ?_
      refine ar rfl (fun hc16 => ?_) (fun hc16 => ?_)
      · -- yes
        refine aY ?_
        refine aX ?_
        refine ogm rfl rfl ?_
        have lv_km19 := rr.lt
        refine ah (a7 (vs := [_]) rfl (bn p1 (rC c).2.1 (rC c).2.2 _ rr (by omega))) rfl ?_
        rintro v13 w67 ⟨_, rfl, o13, rr, km19⟩
        have gl_o13 := hB.size
        have sb_b1_o13 := fun x hx => (show x ≠ b1 from by have h1 := (o13.blk x hx).1; have h2 := hb23.lt; omega)
        have z_km19 := km19.size
        replace o1 := o1.keep km19 (fun x hx hm => by have h9 := List.mem_singleton.1 hm; have h8 := (o1.blk x hx).1; omega)
        replace o8 := o8.keep km19 (fun x hx hm => by have h9 := List.mem_singleton.1 hm; have h8 := (o8.blk x hx).1; omega)
        replace o9 := o9.keep km19 (fun x hx hm => by have h9 := List.mem_singleton.1 hm; have h8 := (o9.blk x hx).1; omega)
        replace hb22 := hb22.keep km19 (fun hm => by have h9 := List.mem_singleton.1 hm; omega)
        replace o10 := o10.keep km19 (fun x hx hm => by have h9 := List.mem_singleton.1 hm; have h8 := (o10.blk x hx).1; omega)
        replace hb23 := hb23.keep km19 (fun hm => by have h9 := List.mem_singleton.1 hm; omega)
        replace hB := hB.new km19 (fun x hm => .inl (by have h9 := List.mem_singleton.1 hm; omega))
        have e_T : rT c = rVec (rC c).2.1 (rC c).2.2 := if_pos (by assumption)
        have rr : RdrG w67 w1.heap.size p1 (rT c).2.1 (rT c).2.2 := by rw [e_T]; exact rr
        replace o13 : OwnB w67 w54.heap.size v13 (rT c).1 := by rw [e_T]; exact o13
        refine oga rfl rfl ?_
        refine aZ ?_
        refine aY ?_
        refine aX ?_
        refine ogm rfl rfl ?_
        refine a4 (bI aA rfl o13.rd) rfl ?_
        refine a4 (cC rfl rfl) rfl ?_
        refine aZ ?_
        refine ar rfl (fun hc17 => ?_) (fun hc17 => ?_)
        · -- yes
          refine cU rfl ?_
          refine aY ?_
          refine a8 ?_
          refine aY ?_
          refine aX ?_
          refine a4 (cL (idx := []) (xs := []) (vs := []) (css := []) (out := [_, _, _, _, _, _, _, _, _, _]) fM bM rfl rfl trivial rfl rfl) rfl ?_
          refine am (bU bM rfl rfl rfl (by simp only [List.forall_mem_cons]; exact ⟨rfl, rfl, rfl, rfl, rfl, rfl, rfl, rfl, rfl, rfl, fun v hv => by cases hv⟩) hb23 rfl) ?_
          rintro _ w68 ⟨hb30, k49, z30⟩
          replace rr := rr.keep k49 (fun x hx hm => (fun x (hx : w1.heap.size ≤ x ∧ x ≤ p1) => (show x ≠ b1 from by have h9 := hx.1; omega)) x hx (List.mem_singleton.1 hm))
          replace o1 := o1.keep k49 (fun x hx hm => sb_b1_o1 x hx (List.mem_singleton.1 hm))
          replace o8 := o8.keep k49 (fun x hx hm => sb_b1_o8 x hx (List.mem_singleton.1 hm))
          replace o9 := o9.keep k49 (fun x hx hm => sb_b1_o9 x hx (List.mem_singleton.1 hm))
          replace hb22 := hb22.keep k49 (nm (Ne.symm ne_b1_b2))
          replace o10 := o10.keep k49 (fun x hx hm => sb_b1_o10 x hx (List.mem_singleton.1 hm))
          replace o13 := o13.keep k49 (fun x hx hm => sb_b1_o13 x hx (List.mem_singleton.1 hm))
          replace hB := hB.new k49 (nw ge_b1)
          clear z30
          replace hb30 : Bk w68 b1 _ [.slice none 0 0, .int .i64 0, .int .i64 0, .int .i64 0, .slice none 0 0, .int .i64 0, .slice none 0 0, .int .i64 0, .slice none 0 0, .slice none 0 0] := hb30
          refine oga rfl rfl ?_
          refine oga rfl rfl ?_
          refine aZ ?_
          refine bB hfin Tryd.results10 rfl (ao cO bM hb30 rfl) rfl rfl ?_
          have hg : gpOkP c = false := by first | exact dt (by assumption) | exact du (by assumption) (by assumption)
          have eX : gpX c = fJ := by unfold gpX; rw [hg]; rfl
          have eT : gpT c = [] := by unfold gpT; rw [hg]; rfl
          have eF : gpF c = 21 := by unfold gpF; rw [hg]; rfl
          rw [eX, eT, eF]
          exact ⟨_, _, _, _, _, _, rfl, a9 _ _ _ _, a9 _ _ _ _, a9 _ _ _ _, a9 _ _ _ _, a9 _ _ _ _, a9 _ _ _ _, hB⟩
        · -- no
          refine a8 ?_
          refine aY ?_
          refine aY ?_
          refine aX ?_
          refine ogm rfl rfl ?_
          refine a4 (bF rfl rfl) rfl ?_
          refine ogm rfl rfl ?_
          refine al 54 true rfl (fun c13 hgc13 => ?_)
          refine a5 [(5, _)] (aa rfl rfl rfl hgc13) ⟨au rfl, trivial⟩ (fun hw31 => av rfl) rfl ?_
          refine dl [(55, _)] (aa rfl rfl rfl hgc13) ⟨ae rfl, trivial⟩ (fun hw32 => a7 (vs := [_]) rfl (eM _ _ _ _ rr.rdr)) rfl ?_
          refine a5 [(56, _)] (aa rfl rfl rfl hgc13) ⟨ae rfl, trivial⟩ (fun hw33 => bF rfl rfl) rfl ?_
          refine a4 (ax rfl rfl hgc13) rfl ?_
          refine ogm rfl rfl ?_
          refine al 59 true rfl (fun c14 hgc14 => ?_)
          refine a5 [(2, _)] (aa rfl rfl rfl hgc14) ⟨au rfl, trivial⟩ (fun hw34 => an (cs' := [_, _, _, _, _, _, _, _, _, _]) cO bM rfl hb23 rfl rfl) rfl ?_
          refine cQ [(60, _)] (aa rfl rfl rfl hgc14) ⟨ae rfl, trivial⟩ (fun hw35 => a7 (vs := [_]) rfl (ci _ _ _ _ _ (rX c) _ o1.rd o8.rd o9.rd o10.rd (show RdB _ (.slice none 0 0) _ from by rw [show (rX c).cs = [] from by show (rC c).1 = []; rw [e_C]]; exact Rd.nil _ _))) rfl ?_
          rintro w70 k51
          replace rr := rr.lh k51
          replace o1 := o1.lh k51
          replace o8 := o8.lh k51
          replace o9 := o9.lh k51
          replace hb22 := hb22.lh k51
          replace o10 := o10.lh k51
          replace hb23 := hb23.lh k51
          replace o13 := o13.lh k51
          replace hB := hB.trans k51
          refine a4 (ax rfl rfl hgc14) rfl ?_
          refine aZ ?_
          refine bH rfl (fun hc18 => ?_) (fun hc18 => ?_)
          · -- yes
            have hd13 := hc18
            try (simp only [Bool.and_eq_true, Bool.or_eq_true, decide_eq_true_eq, Bool.and_eq_false_iff, Bool.or_eq_false_iff, decide_eq_false_iff_not, Bool.not_eq_true', Bool.not_eq_false', Bool.not_eq_true, Bool.not_eq_false, ne_eq, Decidable.not_not, decide_true, decide_false, Bool.true_and, Bool.false_and, Bool.or_false, Bool.false_or, not_true_eq_false, false_or, or_false, true_and, and_true, not_false_eq_true, reduceCtorEq] at hd13)
            refine aY ?_
            refine aX ?_
            refine a4 (an (cs' := [_, _, _, _, _, _, _, _, _, _]) cO bM rfl hb23 rfl rfl) rfl ?_
            refine ogm rfl rfl ?_
            refine am (bU bM rfl rfl rfl (by simp only [List.forall_mem_cons]; exact ⟨o1.rd.one, rfl, rfl, rfl, o8.rd.one, rfl, o9.rd.one, rfl, o10.rd.one, rfl, fun v hv => by cases hv⟩) hb23 rfl) ?_
            rintro _ w71 ⟨hb31, k52, z31⟩
            replace rr := rr.keep k52 (fun x hx hm => (fun x (hx : w1.heap.size ≤ x ∧ x ≤ p1) => (show x ≠ b1 from by have h9 := hx.1; omega)) x hx (List.mem_singleton.1 hm))
            replace o1 := o1.keep k52 (fun x hx hm => sb_b1_o1 x hx (List.mem_singleton.1 hm))
            replace o8 := o8.keep k52 (fun x hx hm => sb_b1_o8 x hx (List.mem_singleton.1 hm))
            replace o9 := o9.keep k52 (fun x hx hm => sb_b1_o9 x hx (List.mem_singleton.1 hm))
            replace hb22 := hb22.keep k52 (nm (Ne.symm ne_b1_b2))
            replace o10 := o10.keep k52 (fun x hx hm => sb_b1_o10 x hx (List.mem_singleton.1 hm))
            replace o13 := o13.keep k52 (fun x hx hm => sb_b1_o13 x hx (List.mem_singleton.1 hm))
            replace hB := hB.new k52 (nw ge_b1)
            clear z31
            replace hb31 : Bk w71 b1 _ [v1, .int .i64 (rEp c).1, .int .i64 (rFr c).1, .int .i64 (rLf c).1, v8, .int .i64 (rKd c).1, v9, .int .i64 1, v10, .slice none 0 0] := hb31
            refine oga rfl rfl ?_
            refine oga rfl rfl ?_
            refine aZ ?_
            refine bB hfin Tryd.results10 rfl (ao cO bM hb31 rfl) rfl rfl ?_
            have hg : gpOkP c = true := by first | exact eI (by assumption) (by assumption) | exact eJ (by assumption) (by omega)
            have eX : gpX c = rX c := by unfold gpX; rw [hg]; rfl
            have eT : gpT c = (rT c).1 := by unfold gpT; rw [hg]; rfl
            have eF : gpF c = 0 := by unfold gpF; rw [hg]; rfl
            rw [eX, eT, eF]
            exact ⟨_, _, _, _, _, _, rfl, o1.lo gl_o1, o8.lo gl_o8, o9.lo gl_o9, o10.lo gl_o10, dL (a9 _ _ _ _) (show [] = _ from by show [] = (rC c).1; rw [e_C]), o13.lo gl_o13, hB⟩
          · -- no
            have hd14 := hc18
            try (simp only [Bool.and_eq_true, Bool.or_eq_true, decide_eq_true_eq, Bool.and_eq_false_iff, Bool.or_eq_false_iff, decide_eq_false_iff_not, Bool.not_eq_true', Bool.not_eq_false', Bool.not_eq_true, Bool.not_eq_false, ne_eq, Decidable.not_not, decide_true, decide_false, Bool.true_and, Bool.false_and, Bool.or_false, Bool.false_or, not_true_eq_false, false_or, or_false, true_and, and_true, not_false_eq_true, reduceCtorEq] at hd14)
            refine a8 ?_
            refine aY ?_
            refine cX ?_
            refine aY ?_
            refine aX ?_
            refine a4 (cL (idx := []) (xs := []) (vs := []) (css := []) (out := [_, _, _, _, _, _, _, _, _, _]) fM bM rfl rfl trivial rfl rfl) rfl ?_
            refine am (bU bM rfl rfl rfl (by simp only [List.forall_mem_cons]; exact ⟨rfl, rfl, rfl, rfl, rfl, rfl, rfl, rfl, rfl, rfl, fun v hv => by cases hv⟩) hb23 rfl) ?_
            rintro _ w72 ⟨hb32, k53, z32⟩
            replace rr := rr.keep k53 (fun x hx hm => (fun x (hx : w1.heap.size ≤ x ∧ x ≤ p1) => (show x ≠ b1 from by have h9 := hx.1; omega)) x hx (List.mem_singleton.1 hm))
            replace o1 := o1.keep k53 (fun x hx hm => sb_b1_o1 x hx (List.mem_singleton.1 hm))
            replace o8 := o8.keep k53 (fun x hx hm => sb_b1_o8 x hx (List.mem_singleton.1 hm))
            replace o9 := o9.keep k53 (fun x hx hm => sb_b1_o9 x hx (List.mem_singleton.1 hm))
            replace hb22 := hb22.keep k53 (nm (Ne.symm ne_b1_b2))
            replace o10 := o10.keep k53 (fun x hx hm => sb_b1_o10 x hx (List.mem_singleton.1 hm))
            replace o13 := o13.keep k53 (fun x hx hm => sb_b1_o13 x hx (List.mem_singleton.1 hm))
            replace hB := hB.new k53 (nw ge_b1)
            clear z32
            replace hb32 : Bk w72 b1 _ [.slice none 0 0, .int .i64 0, .int .i64 0, .int .i64 0, .slice none 0 0, .int .i64 0, .slice none 0 0, .int .i64 0, .slice none 0 0, .slice none 0 0] := hb32
            refine oga rfl rfl ?_
            refine oga rfl rfl ?_
            refine aZ ?_
            refine bB hfin Tryd.results10 rfl (ao cO bM hb32 rfl) rfl rfl ?_
            have hg : gpOkP c = false := by first | exact dt (by assumption) | exact du (by assumption) (by assumption)
            have eX : gpX c = fJ := by unfold gpX; rw [hg]; rfl
            have eT : gpT c = [] := by unfold gpT; rw [hg]; rfl
            have eF : gpF c = 21 := by unfold gpF; rw [hg]; rfl
            rw [eX, eT, eF]
            exact ⟨_, _, _, _, _, _, rfl, a9 _ _ _ _, a9 _ _ _ _, a9 _ _ _ _, a9 _ _ _ _, a9 _ _ _ _, a9 _ _ _ _, hB⟩
      · -- no
        refine a8 ?_
        refine aY ?_
        refine aY ?_
        refine aX ?_
        have e_T : rT c = ([], (rC c).2) := if_neg (by assumption)
        have rr : RdrG w54 w1.heap.size p1 (rT c).2.1 (rT c).2.2 := by rw [e_T]; exact rr
        refine ogm rfl rfl ?_
        refine a4 (bF rfl rfl) rfl ?_
        refine ogm rfl rfl ?_
        refine al 54 true rfl (fun c15 hgc15 => ?_)
        refine a5 [(5, _)] (aa rfl rfl rfl hgc15) ⟨au rfl, trivial⟩ (fun hw36 => av rfl) rfl ?_
        refine dl [(55, _)] (aa rfl rfl rfl hgc15) ⟨ae rfl, trivial⟩ (fun hw37 => a7 (vs := [_]) rfl (eM _ _ _ _ rr.rdr)) rfl ?_
        refine a5 [(56, _)] (aa rfl rfl rfl hgc15) ⟨ae rfl, trivial⟩ (fun hw38 => bF rfl rfl) rfl ?_
        refine a4 (ax rfl rfl hgc15) rfl ?_
        refine ogm rfl rfl ?_
        refine al 59 true rfl (fun c16 hgc16 => ?_)
        refine a5 [(2, _)] (aa rfl rfl rfl hgc16) ⟨au rfl, trivial⟩ (fun hw39 => an (cs' := [_, _, _, _, _, _, _, _, _, _]) cO bM rfl hb23 rfl rfl) rfl ?_
        refine cQ [(60, _)] (aa rfl rfl rfl hgc16) ⟨ae rfl, trivial⟩ (fun hw40 => a7 (vs := [_]) rfl (ci _ _ _ _ _ (rX c) _ o1.rd o8.rd o9.rd o10.rd (show RdB _ (.slice none 0 0) _ from by rw [show (rX c).cs = [] from by show (rC c).1 = []; rw [e_C]]; exact Rd.nil _ _))) rfl ?_
        rintro w74 k55
        replace rr := rr.lh k55
        replace o1 := o1.lh k55
        replace o8 := o8.lh k55
        replace o9 := o9.lh k55
        replace hb22 := hb22.lh k55
        replace o10 := o10.lh k55
        replace hb23 := hb23.lh k55
        replace hB := hB.trans k55
        refine a4 (ax rfl rfl hgc16) rfl ?_
        refine aZ ?_
        refine bH rfl (fun hc19 => ?_) (fun hc19 => ?_)
        · -- yes
          have hd15 := hc19
          try (simp only [Bool.and_eq_true, Bool.or_eq_true, decide_eq_true_eq, Bool.and_eq_false_iff, Bool.or_eq_false_iff, decide_eq_false_iff_not, Bool.not_eq_true', Bool.not_eq_false', Bool.not_eq_true, Bool.not_eq_false, ne_eq, Decidable.not_not, decide_true, decide_false, Bool.true_and, Bool.false_and, Bool.or_false, Bool.false_or, not_true_eq_false, false_or, or_false, true_and, and_true, not_false_eq_true, reduceCtorEq] at hd15)
          refine aY ?_
          refine aX ?_
          refine a4 (an (cs' := [_, _, _, _, _, _, _, _, _, _]) cO bM rfl hb23 rfl rfl) rfl ?_
          refine ogm rfl rfl ?_
          refine am (bU bM rfl rfl rfl (by simp only [List.forall_mem_cons]; exact ⟨o1.rd.one, rfl, rfl, rfl, o8.rd.one, rfl, o9.rd.one, rfl, o10.rd.one, rfl, fun v hv => by cases hv⟩) hb23 rfl) ?_
          rintro _ w75 ⟨hb33, k56, z33⟩
          replace rr := rr.keep k56 (fun x hx hm => (fun x (hx : w1.heap.size ≤ x ∧ x ≤ p1) => (show x ≠ b1 from by have h9 := hx.1; omega)) x hx (List.mem_singleton.1 hm))
          replace o1 := o1.keep k56 (fun x hx hm => sb_b1_o1 x hx (List.mem_singleton.1 hm))
          replace o8 := o8.keep k56 (fun x hx hm => sb_b1_o8 x hx (List.mem_singleton.1 hm))
          replace o9 := o9.keep k56 (fun x hx hm => sb_b1_o9 x hx (List.mem_singleton.1 hm))
          replace hb22 := hb22.keep k56 (nm (Ne.symm ne_b1_b2))
          replace o10 := o10.keep k56 (fun x hx hm => sb_b1_o10 x hx (List.mem_singleton.1 hm))
          replace hB := hB.new k56 (nw ge_b1)
          clear z33
          replace hb33 : Bk w75 b1 _ [v1, .int .i64 (rEp c).1, .int .i64 (rFr c).1, .int .i64 (rLf c).1, v8, .int .i64 (rKd c).1, v9, .int .i64 1, v10, .slice none 0 0] := hb33
          refine oga rfl rfl ?_
          refine oga rfl rfl ?_
          refine aZ ?_
          refine bB hfin Tryd.results10 rfl (ao cO bM hb33 rfl) rfl rfl ?_
          have hg : gpOkP c = true := by first | exact eI (by assumption) (by assumption) | exact eJ (by assumption) (by omega)
          have eX : gpX c = rX c := by unfold gpX; rw [hg]; rfl
          have eT : gpT c = (rT c).1 := by unfold gpT; rw [hg]; rfl
          have eF : gpF c = 0 := by unfold gpF; rw [hg]; rfl
          rw [eX, eT, eF]
          exact ⟨_, _, _, _, _, _, rfl, o1.lo gl_o1, o8.lo gl_o8, o9.lo gl_o9, o10.lo gl_o10, dL (a9 _ _ _ _) (show [] = _ from by show [] = (rC c).1; rw [e_C]), dL (a9 _ _ _ _) (show [] = _ from by rw [e_T]), hB⟩
        · -- no
          have hd16 := hc19
          try (simp only [Bool.and_eq_true, Bool.or_eq_true, decide_eq_true_eq, Bool.and_eq_false_iff, Bool.or_eq_false_iff, decide_eq_false_iff_not, Bool.not_eq_true', Bool.not_eq_false', Bool.not_eq_true, Bool.not_eq_false, ne_eq, Decidable.not_not, decide_true, decide_false, Bool.true_and, Bool.false_and, Bool.or_false, Bool.false_or, not_true_eq_false, false_or, or_false, true_and, and_true, not_false_eq_true, reduceCtorEq] at hd16)
          refine a8 ?_
          refine aY ?_
          refine cX ?_
          refine aY ?_
          refine aX ?_
          refine a4 (cL (idx := []) (xs := []) (vs := []) (css := []) (out := [_, _, _, _, _, _, _, _, _, _]) fM bM rfl rfl trivial rfl rfl) rfl ?_
          refine am (bU bM rfl rfl rfl (by simp only [List.forall_mem_cons]; exact ⟨rfl, rfl, rfl, rfl, rfl, rfl, rfl, rfl, rfl, rfl, fun v hv => by cases hv⟩) hb23 rfl) ?_
          rintro _ w76 ⟨hb34, k57, z34⟩
          replace rr := rr.keep k57 (fun x hx hm => (fun x (hx : w1.heap.size ≤ x ∧ x ≤ p1) => (show x ≠ b1 from by have h9 := hx.1; omega)) x hx (List.mem_singleton.1 hm))
          replace o1 := o1.keep k57 (fun x hx hm => sb_b1_o1 x hx (List.mem_singleton.1 hm))
          replace o8 := o8.keep k57 (fun x hx hm => sb_b1_o8 x hx (List.mem_singleton.1 hm))
          replace o9 := o9.keep k57 (fun x hx hm => sb_b1_o9 x hx (List.mem_singleton.1 hm))
          replace hb22 := hb22.keep k57 (nm (Ne.symm ne_b1_b2))
          replace o10 := o10.keep k57 (fun x hx hm => sb_b1_o10 x hx (List.mem_singleton.1 hm))
          replace hB := hB.new k57 (nw ge_b1)
          clear z34
          replace hb34 : Bk w76 b1 _ [.slice none 0 0, .int .i64 0, .int .i64 0, .int .i64 0, .slice none 0 0, .int .i64 0, .slice none 0 0, .int .i64 0, .slice none 0 0, .slice none 0 0] := hb34
          refine oga rfl rfl ?_
          refine oga rfl rfl ?_
          refine aZ ?_
          refine bB hfin Tryd.results10 rfl (ao cO bM hb34 rfl) rfl rfl ?_
          have hg : gpOkP c = false := by first | exact dt (by assumption) | exact du (by assumption) (by assumption)
          have eX : gpX c = fJ := by unfold gpX; rw [hg]; rfl
          have eT : gpT c = [] := by unfold gpT; rw [hg]; rfl
          have eF : gpF c = 21 := by unfold gpF; rw [hg]; rfl
          rw [eX, eT, eF]
          exact ⟨_, _, _, _, _, _, rfl, a9 _ _ _ _, a9 _ _ _ _, a9 _ _ _ _, a9 _ _ _ _, a9 _ _ _ _, a9 _ _ _ _, hB⟩
theorem dz (n size : Int) (hs : 0 ≤ size ∧ size ≤ 8) (w : World) : Rets Tryd.prog 51 [.int .i64 n, .int .i64 size] w (fun v w' => OwnB w' w.heap.size v (be n size.toNat) ∧ Keep [] w w') := by
 have hB : Keep [] w w := Keep.refl _ _
 refine ad Tryd.func51 rfl (by decide) Tryd.ntmps51 rfl (fun fin _ hfin => ?_)
 refine aY (aX (oga rfl rfl (aZ (aY (aX (oga rfl rfl ?_))))))
 refine aZ (aY (aY (aX (ogm rfl rfl (a4 (cy rfl rfl (by omega)) rfl ?_)))))
 refine oga rfl rfl (aZ (ag (bT (Γ := Int × Value) (fun ⟨i, o⟩ => [(0, .int .i64 n), (1, .int .i64 size), (5, o), (6, .int .i64 i)]) (fun ⟨i, o⟩ W => -1 ≤ i ∧ i < size ∧ OwnB W w.heap.size o ((be n size.toNat).take (size - 1 - i).toNat) ∧ Keep [] w W) (fun ⟨i, o⟩ => (i + 1).toNat) ⟨size - 1, .slice none 0 0⟩ ⟨rfl, rfl, rfl, rfl, trivial⟩ (⟨by omega, by omega, by rw [show (size - 1 - (size - 1)).toNat = 0 from by omega]; exact a9 _ _ _ _, hB⟩) ?_)))
 rintro ⟨i, o⟩ w1 ⟨hi0, hi1, ow, hB⟩
 refine ab [(0, .int .i64 n), (1, .int .i64 size), (5, o), (6, .int .i64 i)] ⟨rfl, rfl, rfl, rfl, trivial⟩ ?_
 refine aY (aY (aX (ogm rfl rfl (a4 (fA rfl rfl) rfl ?_))))
 refine aZ (ar rfl (fun hc1 => ?_) (fun hc1 => ?_))
 ·
  refine a8 (aY (ag (aX (ogm rfl rfl (ogm rfl rfl (ogm rfl rfl ?_))))))
  refine a4 (f7 rfl rfl (by omega)) rfl ?_
  refine a4 (eh (by rw [aK]; rfl) aP rfl (by omega)) rfl ?_
  refine a4 (ez rfl rfl (by constructor <;> (try simp only [IntKind.bits]) <;> omega)) rfl ?_
  refine a4 (dY (by rw [aK]; rfl) aI rfl) rfl ?_
  refine ah (dA (m := 1) (xs := [.tmp 19]) (vs := [_]) aA bu (by decide) rfl rfl rfl (by first | (simp; done) | (intro v hv; rw [List.mem_singleton] at hv; subst hv; rfl)) (by decide)) rfl ?_
  rintro v1 w2 ⟨o1, nn1, lb1, k1, z1⟩
  have z_k1 := k1.size
  replace ow := ow.lh k1
  replace hB := hB.trans k1
  have hby : IntKind.u8.wrap (n / 2 ^ (8 * i).toNat) = ((byteAt n i.toNat).toNat : Int) := by rw [cF, IntKind.wrap_u8]; congr 3; omega
  replace o1 := eU o1 hby
  have hlt8 : ((be n size.toNat).take (size - 1 - i).toNat).length ≤ 8 := by rw [List.length_take, bx]; omega
  have hl1 : ([byteAt n i.toNat] : List UInt8).length = 1 := rfl
  have e0 : (be n size.toNat)[(size - 1 - i).toNat]? = some (byteAt n i.toNat) := by simp only [be, List.getElem?_map]; rw [List.getElem?_range (by omega)]; refine congrArg some ?_; show byteAt n _ = byteAt n _; congr 1; omega
  have e1 : (be n size.toNat).take (size - 1 - (i - 1)).toNat = (be n size.toNat).take (size - 1 - i).toNat ++ [byteAt n i.toNat] := by rw [show (size - 1 - (i - 1)).toNat = (size - 1 - i).toNat + 1 from by omega]; exact bl e0
  refine ah (bS  aA bu rfl (by first | assumption | exact a9 _ _ _ _) rfl (by first | assumption | exact Own.rd ‹_› | exact Rd.lh ‹_› hB | exact Own.rd (Own.lh ‹_› hB)) (by first | omega | (simp only [bL, List.length_append, Int.toNat_natCast] at *; omega)) (by have := hB.size; omega)) rfl ?_
  rintro v2 w3 ⟨o2, k2, lb2, nn2⟩
  have z_k2 := k2.size
  replace hB := hB.new k2 (fun x hx => .inl (ow.blk x hx).1)
  refine oga rfl rfl (aZ (bg (aX (ogm rfl rfl (a4 (cy rfl rfl (by omega)) rfl ?_)))))
  refine oga rfl rfl (aZ (bd (Γ := Int × Value) ⟨i - 1, v2⟩ ⟨rfl, rfl, rfl, rfl, trivial⟩ (by (try dsimp only); omega) (⟨by omega, by omega, by rw [e1]; simpa [OwnB] using o2, hB⟩)))
 ·
  refine bN rfl ?_
  refine aY (aX (ogm rfl rfl (oga rfl rfl (aZ (af hfin Tryd.results51 rfl ?_)))))
  obtain rfl : i = -1 := by omega
  rw [List.take_of_length_le (by rw [bx]; omega)] at ow
  exact ⟨ow, hB⟩
theorem lA (n : Int) (hn : 0 ≤ n ∧ n < 1073741824) (w : World) : Rets Tryd.prog 71 [.int .i64 n] w (fun v w' => ∃ u, v = .tuple #[u, .int .i64 0] ∧ OwnB w' w.heap.size u (vlen n.toNat) ∧ Keep [] w w') := by
  have hB : Keep [] w w := Keep.refl _ _
  refine ad Tryd.func71 rfl (by decide) Tryd.ntmps71 rfl (fun fin _ hfin => ?_)
  refine aY ?_
  refine aX ?_
  refine oga rfl rfl ?_
  refine oga rfl rfl ?_
  refine aZ ?_
  refine aY ?_
  refine ag ?_
  refine aY ?_
  refine aX ?_
  refine ogm rfl rfl ?_
  refine a4 (bO rfl rfl) rfl ?_
  refine ogm rfl rfl ?_
  refine al 7 false rfl (fun c1 hgc1 => ?_)
  refine a5 [(0, _)] (aa rfl rfl rfl hgc1) ⟨au rfl, trivial⟩ (fun hw1 => av rfl) rfl ?_
  refine a5 [(8, _)] (aa rfl rfl rfl hgc1) ⟨ae rfl, trivial⟩ (fun hw2 => fA rfl rfl) rfl ?_
  refine a4 (bi rfl rfl hgc1) rfl ?_
  refine oga rfl rfl ?_
  refine aZ ?_
  refine bH rfl (fun hc1 => ?_) (fun hc1 => ?_)
  · -- yes
    have hd1 := hc1
    try (simp only [Bool.and_eq_true, Bool.or_eq_true, decide_eq_true_eq, Bool.and_eq_false_iff, Bool.or_eq_false_iff, decide_eq_false_iff_not, Bool.not_eq_true', Bool.not_eq_false', Bool.not_eq_true, Bool.not_eq_false, ne_eq, Decidable.not_not, decide_true, decide_false, Bool.true_and, Bool.false_and, Bool.or_false, Bool.false_or, not_true_eq_false, false_or, or_false, true_and, and_true, not_false_eq_true, reduceCtorEq] at hd1)
    refine aY ?_
    refine aX ?_
    refine oga rfl rfl ?_
    refine oga rfl rfl ?_
    refine aZ ?_
    refine bK hfin Tryd.results71 rfl rfl ?_
    first
    | (exfalso; omega)
    | (have hv : vlen n.toNat = be n 1 := by unfold vlen; rw [if_pos (by omega)]; congr 1; omega
       exact ⟨_, rfl, by rw [hv]; assumption, hB⟩)
    | (have hv : vlen n.toNat = be (n + 16384) 2 := by unfold vlen; rw [if_neg (by omega), if_pos (by omega)]; congr 1; omega
       exact ⟨_, rfl, by rw [hv]; assumption, hB⟩)
    | (have hv : vlen n.toNat = be (n + 2147483648) 4 := by unfold vlen; rw [if_neg (by omega), if_neg (by omega)]; congr 1; omega
       exact ⟨_, rfl, by rw [hv]; assumption, hB⟩)
  · -- no
    have hd2 := hc1
    try (simp only [Bool.and_eq_true, Bool.or_eq_true, decide_eq_true_eq, Bool.and_eq_false_iff, Bool.or_eq_false_iff, decide_eq_false_iff_not, Bool.not_eq_true', Bool.not_eq_false', Bool.not_eq_true, Bool.not_eq_false, ne_eq, Decidable.not_not, decide_true, decide_false, Bool.true_and, Bool.false_and, Bool.or_false, Bool.false_or, not_true_eq_false, false_or, or_false, true_and, and_true, not_false_eq_true, reduceCtorEq] at hd2)
    refine aY ?_
    refine aX ?_
    refine ogm rfl rfl ?_
    refine a4 (bO rfl rfl) rfl ?_
    refine oga rfl rfl ?_
    refine aZ ?_
    refine ar rfl (fun hc2 => ?_) (fun hc2 => ?_)
    · -- yes
      refine aY ?_
      refine aX ?_
      refine ogm rfl rfl ?_
      refine ah (a7 (vs := [_, _]) rfl (dz _ _ (by omega) _)) rfl ?_
      rintro v1 w1 ⟨o1, k1⟩
      have z_k1 := k1.size
      replace hB := hB.trans k1
      refine oga rfl rfl ?_
      refine oga rfl rfl ?_
      refine aZ ?_
      refine bK hfin Tryd.results71 rfl rfl ?_
      first
      | (exfalso; omega)
      | (have hv : vlen n.toNat = be n 1 := by unfold vlen; rw [if_pos (by omega)]; congr 1; omega
         exact ⟨_, rfl, by rw [hv]; assumption, hB⟩)
      | (have hv : vlen n.toNat = be (n + 16384) 2 := by unfold vlen; rw [if_neg (by omega), if_pos (by omega)]; congr 1; omega
         exact ⟨_, rfl, by rw [hv]; assumption, hB⟩)
      | (have hv : vlen n.toNat = be (n + 2147483648) 4 := by unfold vlen; rw [if_neg (by omega), if_neg (by omega)]; congr 1; omega
         exact ⟨_, rfl, by rw [hv]; assumption, hB⟩)
    · -- no
      refine aY ?_
      refine aX ?_
      refine ogm rfl rfl ?_
      refine a4 (bO rfl rfl) rfl ?_
      refine oga rfl rfl ?_
      refine aZ ?_
      refine ar rfl (fun hc3 => ?_) (fun hc3 => ?_)
      · -- yes
        refine aY ?_
        refine aX ?_
        refine ogm rfl rfl ?_
        refine a4 (br rfl rfl (by omega)) rfl ?_
        refine ah (a7 (vs := [_, _]) rfl (dz _ _ (by omega) _)) rfl ?_
        rintro v2 w2 ⟨o2, k2⟩
        have z_k2 := k2.size
        replace hB := hB.trans k2
        refine oga rfl rfl ?_
        refine oga rfl rfl ?_
        refine aZ ?_
        refine bK hfin Tryd.results71 rfl rfl ?_
        first
        | (exfalso; omega)
        | (have hv : vlen n.toNat = be n 1 := by unfold vlen; rw [if_pos (by omega)]; congr 1; omega
           exact ⟨_, rfl, by rw [hv]; assumption, hB⟩)
        | (have hv : vlen n.toNat = be (n + 16384) 2 := by unfold vlen; rw [if_neg (by omega), if_pos (by omega)]; congr 1; omega
           exact ⟨_, rfl, by rw [hv]; assumption, hB⟩)
        | (have hv : vlen n.toNat = be (n + 2147483648) 4 := by unfold vlen; rw [if_neg (by omega), if_neg (by omega)]; congr 1; omega
           exact ⟨_, rfl, by rw [hv]; assumption, hB⟩)
      · -- no
        refine a8 ?_
        refine bg ?_
        refine aY ?_
        refine aX ?_
        refine ogm rfl rfl ?_
        refine a4 (br rfl rfl (by omega)) rfl ?_
        refine ah (a7 (vs := [_, _]) rfl (dz _ _ (by omega) _)) rfl ?_
        rintro v3 w3 ⟨o3, k3⟩
        have z_k3 := k3.size
        replace hB := hB.trans k3
        refine oga rfl rfl ?_
        refine oga rfl rfl ?_
        refine aZ ?_
        refine bK hfin Tryd.results71 rfl rfl ?_
        first
        | (exfalso; omega)
        | (have hv : vlen n.toNat = be n 1 := by unfold vlen; rw [if_pos (by omega)]; congr 1; omega
           exact ⟨_, rfl, by rw [hv]; assumption, hB⟩)
        | (have hv : vlen n.toNat = be (n + 16384) 2 := by unfold vlen; rw [if_neg (by omega), if_pos (by omega)]; congr 1; omega
           exact ⟨_, rfl, by rw [hv]; assumption, hB⟩)
        | (have hv : vlen n.toNat = be (n + 2147483648) 4 := by unfold vlen; rw [if_neg (by omega), if_neg (by omega)]; congr 1; omega
           exact ⟨_, rfl, by rw [hv]; assumption, hB⟩)
def i7 (xs : List UInt8) : Int := if xs.length ≤ 65536 then 0 else 6
def fU (xs : List UInt8) : List UInt8 := if xs.length ≤ 65536 then vec xs else []
theorem kx (v : Value) (xs : List UInt8) (w : World) (hv : RdB w v xs) : Rets Tryd.prog 52 [v] w (fun r w' => ∃ u, r = .tuple #[u, .int .i64 (i7 xs)] ∧ OwnB w' w.heap.size u (fU xs) ∧ Keep [] w w') := by
  have hB : Keep [] w w := Keep.refl _ _
  have hvl := dT xs.length
  have hle := hv.le
  refine ad Tryd.func52 rfl (by decide) Tryd.ntmps52 rfl (fun fin _ hfin => ?_)
  refine aY ?_
  refine aX ?_
  refine oga rfl rfl ?_
  refine oga rfl rfl ?_
  refine aZ ?_
  refine aY ?_
  refine aY ?_
  refine aX ?_
  refine ogm rfl rfl ?_
  refine a4 (bI aA rfl (by first | assumption | exact Own.rd (by assumption) | exact Rd.lh (by assumption) hB | exact Own.rd (Own.lh (by assumption) hB))) rfl ?_
  refine a4 (dr rfl rfl) rfl ?_
  refine aZ ?_
  refine ar rfl (fun hc1 => ?_) (fun hc1 => ?_)
  · -- yes
    refine aY ?_
    refine aX ?_
    refine oga rfl rfl ?_
    refine oga rfl rfl ?_
    refine aZ ?_
    refine bK hfin Tryd.results52 rfl rfl ?_
    first
    | (refine ⟨_, by unfold i7; rw [if_neg (by omega)], ?_, hB⟩; unfold fU; rw [if_neg (by omega)]; exact a9 _ _ _ _)
    | (refine ⟨_, by unfold i7; rw [if_pos (by omega)], ?_, hB⟩; unfold fU; rw [if_pos (by omega)]; simpa [OwnB, vec] using o2)
  · -- no
    refine a8 ?_
    refine aY ?_
    refine aX ?_
    refine ogm rfl rfl ?_
    refine a4 (bI aA rfl (by first | assumption | exact Own.rd (by assumption) | exact Rd.lh (by assumption) hB | exact Own.rd (Own.lh (by assumption) hB))) rfl ?_
    refine ah (a7 (vs := [_]) rfl (lA _ (by constructor <;> omega) _)) rfl ?_
    rintro _ w1 ⟨v1, rfl, o1, k1⟩
    have z_k1 := k1.size
    replace hB := hB.trans k1
    refine ogm rfl rfl ?_
    refine a4 (bm (vs := [_, _]) rfl rfl) rfl ?_
    refine a4 (bm (vs := [_, _]) rfl rfl) rfl ?_
    refine oga rfl rfl ?_
    refine oga rfl rfl ?_
    refine aZ ?_
    refine aY ?_
    refine aX ?_
    refine ogm rfl rfl ?_
    refine ogm rfl rfl ?_
    refine ah (bS  aA bu rfl (by first | assumption | exact a9 _ _ _ _) rfl (by first | assumption | exact Own.rd (by assumption) | exact Rd.lh (by assumption) hB | exact Own.rd (Own.lh (by assumption) hB)) (by first | omega | (simp only [bL, List.length_append, Int.toNat_natCast] at *; omega)) (by have := hB.size; omega)) rfl ?_
    rintro v2 w2 ⟨o2, k2, lb1, nn1⟩
    have z_k2 := k2.size
    replace hB := hB.new k2 (fun x hx => .inl (o1.blk x hx).1)
    refine oga rfl rfl ?_
    refine oga rfl rfl ?_
    refine aZ ?_
    refine bK hfin Tryd.results52 rfl rfl ?_
    first
    | (refine ⟨_, by unfold i7; rw [if_neg (by omega)], ?_, hB⟩; unfold fU; rw [if_neg (by omega)]; exact a9 _ _ _ _)
    | (refine ⟨_, by unfold i7; rw [if_pos (by omega)], ?_, hB⟩; unfold fU; rw [if_pos (by omega)]; simpa [OwnB, vec] using o2)
def joinB (ls : List (List UInt8)) : List UInt8 := ls.flatMap fU
theorem gh (l : List (List UInt8)) (x : List UInt8) : joinB (l ++ [x]) = joinB l ++ fU x := by simp [joinB]
theorem gz (l : List (List UInt8)) (i : Nat) : (joinB (l.take i)).length ≤ (joinB l).length := by
 have : joinB l = joinB (l.take i) ++ joinB (l.drop i) := by unfold joinB; rw [← List.flatMap_append, List.take_append_drop]
 rw [this, List.length_append]; omega
theorem gI {l : List (List UInt8)} {i : Nat} {x : List UInt8} (h : l[i]? = some x) : (joinB (l.take i)).length + (fU x).length ≤ (joinB l).length := by
 have h1 := gz l (i + 1)
 rw [bl h, gh] at h1
 simpa using h1
theorem dX (v : Value) (ls : List (List UInt8)) (lo : Nat) (w : World) (h : SlL w lo 22 v ls) (hsum : (joinB ls).length ≤ 140737488355328) : Rets Tryd.prog 30 [v] w (fun u w' => OwnB w' w.heap.size u (joinB ls) ∧ Keep [] w w') := by
 have hB : Keep [] w w := Keep.refl _ _
 obtain ⟨us, h1, hl, h3⟩ := h
 have hv := h3.rd
 have hle := hv.le
 refine ad Tryd.func30 rfl (by decide) Tryd.ntmps30 rfl (fun fin _ hfin => ?_)
 refine aY (aX (oga rfl rfl (aZ (aY (aX (oga rfl rfl ?_))))))
 refine aZ (aY (aY (aX (oga rfl rfl (aZ (ag ?_))))))
 refine bT (Γ := Int × Value) (fun ⟨i, o⟩ => [(0, v), (3, o), (4, .int .i64 i)]) (fun ⟨i, o⟩ W => 0 ≤ i ∧ i ≤ ls.length ∧ OwnB W w.heap.size o (joinB (ls.take i.toNat)) ∧ Keep [] w W) (fun ⟨i, o⟩ => (ls.length - i).toNat) ⟨0, .slice none 0 0⟩ ⟨rfl, rfl, rfl, trivial⟩ (⟨by decide, by omega, a9 _ _ _ _, hB⟩) ?_
 rintro ⟨i, o⟩ w1 ⟨hi0, hi1, ow, hB⟩
 refine ab [(0, v), (3, o), (4, .int .i64 i)] ⟨rfl, rfl, rfl, trivial⟩ ?_
 refine aY (aY (aX (ogm rfl rfl (ogm rfl rfl (a4 (bI aJ rfl (by first | assumption | exact Own.rd ‹_› | exact Rd.lh ‹_› hB | exact Own.rd (Own.lh ‹_› hB))) rfl ?_)))))
 refine a4 (bO rfl rfl) rfl ?_
 refine aZ (ar rfl (fun hc1 => ?_) (fun hc1 => ?_))
 ·
  refine a8 (aY (ag (aY (aX (ogm rfl rfl (ogm rfl rfl ?_))))))
  refine a4 (bR aJ az rfl (by first | assumption | exact Own.rd ‹_› | exact Rd.lh ‹_› hB | exact Own.rd (Own.lh ‹_› hB)) rfl (by omega)) rfl ?_
  obtain ⟨u, x, hx, hu, ru⟩ := hl.get (i := i.toNat) (by omega)
  have e1 : ls.take (i + 1).toNat = ls.take i.toNat ++ [x] := by rw [show (i + 1).toNat = i.toNat + 1 from by omega]; exact bl hx
  have hsz := gI hx
  refine a4 (dN ba rfl (by first | assumption | exact Own.rd ‹_› | exact Rd.lh ‹_› hB | exact Own.rd (Own.lh ‹_› hB)) (by rw [Nat.mul_one]; exact hu)) rfl ?_
  refine ah (a7 (vs := [_]) rfl (kx _ _ _ (by first | assumption | exact Own.rd ‹_› | exact Rd.lh ‹_› hB | exact Own.rd (Own.lh ‹_› hB)))) rfl ?_
  rintro _ w2 ⟨v1, rfl, o1, k1⟩
  have z_k1 := k1.size
  replace ow := ow.lh k1
  replace hB := hB.trans k1
  refine ogm rfl rfl (a4 (bm (vs := [_, _]) rfl rfl) rfl ?_)
  refine a4 (bm (vs := [_, _]) rfl rfl) rfl ?_
  refine oga rfl rfl (oga rfl rfl (aZ (aX (ogm rfl rfl (ogm rfl rfl (ah (bS  aA bu rfl (by first | assumption | exact a9 _ _ _ _) rfl (by first | assumption | exact Own.rd ‹_› | exact Rd.lh ‹_› hB | exact Own.rd (Own.lh ‹_› hB)) (by first | omega | (simp only [bL, List.length_append, Int.toNat_natCast] at *; omega)) (by have := hB.size; omega)) rfl ?_))))))
  rintro v2 w3 ⟨o2, k2, lb1, nn1⟩
  have z_k2 := k2.size
  replace hB := hB.new k2 (fun x hx => .inl (ow.blk x hx).1)
  refine oga rfl rfl (aZ (bg (aX (ogm rfl rfl (a4 (br rfl rfl (by omega)) rfl ?_)))))
  refine oga rfl rfl (aZ (bd (Γ := Int × Value) ⟨i + 1, v2⟩ ⟨rfl, rfl, rfl, trivial⟩ (by (try dsimp only); omega) (⟨by omega, by omega, by rw [e1, gh]; simpa [OwnB] using o2, hB⟩)))
 ·
  refine bN rfl ?_
  refine aY (aX (ogm rfl rfl (oga rfl rfl (aZ (af hfin Tryd.results30 rfl ?_)))))
  have hj : i.toNat = ls.length := by omega
  rw [hj, List.take_length] at ow
  exact ⟨ow, hB⟩
def RdR (w : World) (p : Nat) (rest : List UInt8) (e : Int) : Prop := ∃ (bs : List UInt8) (at_ : Nat) (bw : Value), Bk w p 81 [bw, .int .i64 (at_ : Int), .int .i64 e] ∧ RdB w bw bs ∧ (∀ x, x ∈ vblk bw → x < p) ∧ at_ ≤ bs.length ∧ rest = bs.drop at_ ∧ bs.length ≤ 140737488355328
def RdA (w : World) (p : Nat) (bs : List UInt8) (bw : Value) (at_ : Nat) (e : Int) : Prop := Bk w p 81 [bw, .int .i64 (at_ : Int), .int .i64 e] ∧ RdB w bw bs ∧ (∀ x, x ∈ vblk bw → x < p) ∧ at_ ≤ bs.length ∧ bs.length ≤ 140737488355328
theorem RdR.keep {S : List Nat} {w w' : World} {p : Nat} {rest : List UInt8} {e : Int} (h : RdR w p rest e) (k : Keep S w w') (hS : ∀ x, x ≤ p → x ∉ S) : RdR w' p rest e := by
 obtain ⟨bs, a, bw, hb, hr, hn, h1⟩ := h; exact ⟨bs, a, bw, hb.keep k (hS p (Nat.le_refl _)), hr.keep k (fun x hx => hS x (Nat.le_of_lt (hn x hx))), hn, h1⟩
def RdRL (w : World) (lo p : Nat) (rest : List UInt8) (e : Int) : Prop := lo ≤ p ∧ ∃ (bs : List UInt8) (at_ : Nat) (bw : Value), Bk w p 81 [bw, .int .i64 (at_ : Int), .int .i64 e] ∧ RdB w bw bs ∧ (∀ x, x ∈ vblk bw → lo ≤ x ∧ x < p) ∧ at_ ≤ bs.length ∧ rest = bs.drop at_ ∧ bs.length ≤ 140737488355328
theorem RdRL.rdr {w : World} {lo p : Nat} {rest : List UInt8} {e : Int} (h : RdRL w lo p rest e) : RdR w p rest e := by obtain ⟨_, bs, a, bw, hb, hr, hn, h1⟩ := h; exact ⟨bs, a, bw, hb, hr, fun x hx => (hn x hx).2, h1⟩
theorem RdRL.keep {S : List Nat} {w w' : World} {lo p : Nat} {rest : List UInt8} {e : Int} (h : RdRL w lo p rest e) (k : Keep S w w') (hS : ∀ x, lo ≤ x → x ∉ S) : RdRL w' lo p rest e := by
 obtain ⟨h0, bs, a, bw, hb, hr, hn, h1⟩ := h; exact ⟨h0, bs, a, bw, hb.keep k (hS p h0), hr.keep k (fun x hx => hS x (hn x hx).1), hn, h1⟩
theorem RdRL.lh {w w' : World} {lo p : Nat} {rest : List UInt8} {e : Int} (h : RdRL w lo p rest e) (k : Keep [] w w') : RdRL w' lo p rest e := h.keep k (fun _ _ h => by cases h)
theorem RdA.rdR {w : World} {p at_ : Nat} {bs : List UInt8} {bw : Value} {e : Int} (h : RdA w p bs bw at_ e) : RdR w p (bs.drop at_) e := ⟨bs, at_, bw, h.1, h.2.1, h.2.2.1, h.2.2.2.1, rfl, h.2.2.2.2⟩
theorem RdR.rdA {w : World} {p : Nat} {rest : List UInt8} {e : Int} (h : RdR w p rest e) : ∃ bs bw at_, rest = bs.drop at_ ∧ RdA w p bs bw at_ e := by obtain ⟨bs, a, bw, h1, h2, h3, h4, h5, h6⟩ := h; exact ⟨bs, bw, a, h5, h1, h2, h3, h4, h6⟩
theorem RdR.lt {w : World} {p : Nat} {rest : List UInt8} {e : Int} (h : RdR w p rest e) : p < w.heap.size := by obtain ⟨_, _, _, hb, _⟩ := h; exact hb.lt
theorem RdR.lh {w w' : World} {p : Nat} {rest : List UInt8} {e : Int} (h : RdR w p rest e) (k : Keep [] w w') : RdR w' p rest e := by
 obtain ⟨bs, a, bw, hb, hr, h1⟩ := h; exact ⟨bs, a, bw, hb.lh k, hr.lh k, h1⟩
theorem dk (p : Nat) (rest : List UInt8) (e : Int) (w : World) (h : RdR w p rest e) : Rets Tryd.prog 61 [.pointer (some ⟨p, 0, none⟩)] w (fun v w' => v = .int .i64 (rest.length : Int) ∧ Keep [] w w') := by
  obtain ⟨bs, at_, bw, hb, hr, hn, hal, rfl, hbl⟩ := h
  have hB : Keep [] w w := Keep.refl _ _
  have hcap := hr.vcap
  have hdl : (bs.drop at_).length = bs.length - at_ := List.length_drop
  refine ad Tryd.func61 rfl (by decide) Tryd.ntmps61 rfl (fun fin _ hfin => ?_)
  refine aY ?_
  refine aX ?_
  refine oga rfl rfl ?_
  refine aZ ?_
  refine aY ?_
  refine el mixed [(0, _)] (fun jj v W => match jj with | 0 => v = .pointer (some ⟨p, 0, none⟩) | 1 => v = .pointer (some ⟨p, 0, none⟩) | 2 => v = .pointer (some ⟨p, 0 + 0, none⟩) | 3 => v = bw | 4 => v = .int .i64 (bs.length : Int) | 5 => v = .pointer (some ⟨p, 0, none⟩) | 6 => v = .pointer (some ⟨p, 0, none⟩) | 7 => v = .pointer (some ⟨p, 0 + 1, none⟩) | 8 => v = .int .i64 (at_ : Int) | 9 => v = .int .i64 ((bs.length : Int) - (at_ : Int)) | 10 => v = .int .i64 ((bs.length : Int) - (at_ : Int)) | _ => True) ⟨rfl, trivial⟩ (by decide) rfl ?_ ?_ ?_
  · intro jj v W W' h k
    match jj, h with
    | 0, h => exact h
    | 1, h => exact h
    | 2, h => exact h
    | 3, h => exact h
    | 4, h => exact h
    | 5, h => exact h
    | 6, h => exact h
    | 7, h => exact h
    | 8, h => exact h
    | 9, h => exact h
    | 10, h => exact h
    | _ + 11, _ => trivial
  · refine ⟨?_, ?_, ?_, ?_, ?_, ?_, ?_, ?_, ?_, ?_, ?_, trivial⟩
    · refine ⟨[], rfl, ?_⟩; rintro W1 hk vs hd
      replace hb := hb.lh hk
      replace hB := hB.trans hk
      refine ⟨true, fun a _ => rfl, fun _ => ?_, fun h => by cases h⟩
      refine a6 [(0, _)] ⟨rfl, trivial⟩ ?_
      refine (Gives.does (av rfl)).mono ?_
      rintro v W2 ⟨rfl, rfl⟩
      exact ⟨Keep.refl _ _, rfl⟩
    · refine ⟨[0], rfl, ?_⟩; rintro W1 hk vs hd
      have d0 : (vs 0) = .pointer (some ⟨p, 0, none⟩) := hd 0 (by decide)
      replace hb := hb.lh hk
      replace hB := hB.trans hk
      refine ⟨true, fun a _ => rfl, fun _ => ?_, fun h => by cases h⟩
      refine a6 [(3, .pointer (some ⟨p, 0, none⟩))] ⟨congrArg some d0, trivial⟩ ?_
      refine (Gives.does (ai rfl)).mono ?_
      rintro v W2 ⟨rfl, rfl⟩
      exact ⟨Keep.refl _ _, rfl⟩
    · refine ⟨[1], rfl, ?_⟩; rintro W1 hk vs hd
      have d1 : (vs 1) = .pointer (some ⟨p, 0, none⟩) := hd 1 (by decide)
      replace hb := hb.lh hk
      replace hB := hB.trans hk
      refine ⟨true, fun a _ => rfl, fun _ => ?_, fun h => by cases h⟩
      refine a6 [(4, .pointer (some ⟨p, 0, none⟩))] ⟨congrArg some d1, trivial⟩ ?_
      refine (Gives.does (ay aG rfl az (by decide) rfl)).mono ?_
      rintro v W2 ⟨rfl, rfl⟩
      exact ⟨Keep.refl _ _, rfl⟩
    · refine ⟨[2], rfl, ?_⟩; rintro W1 hk vs hd
      have d2 : (vs 2) = .pointer (some ⟨p, 0 + 0, none⟩) := hd 2 (by decide)
      replace hb := hb.lh hk
      replace hB := hB.trans hk
      refine ⟨true, fun a _ => rfl, fun _ => ?_, fun h => by cases h⟩
      refine a6 [(5, .pointer (some ⟨p, 0 + 0, none⟩))] ⟨congrArg some d2, trivial⟩ ?_
      refine (Gives.does (ac ba rfl (by assumption) rfl)).mono ?_
      rintro v W2 ⟨rfl, rfl⟩
      exact ⟨Keep.refl _ _, rfl⟩
    · refine ⟨[3], rfl, ?_⟩; rintro W1 hk vs hd
      have d3 : (vs 3) = bw := hd 3 (by decide)
      replace hb := hb.lh hk
      replace hB := hB.trans hk
      refine ⟨true, fun a _ => rfl, fun _ => ?_, fun h => by cases h⟩
      refine a6 [(6, bw)] ⟨congrArg some d3, trivial⟩ ?_
      refine (Gives.does (bI aA rfl (by first | assumption | exact Own.rd (by assumption) | exact Rd.lh (by assumption) hB | exact Own.rd (Own.lh (by assumption) hB)))).mono ?_
      rintro v W2 ⟨rfl, rfl⟩
      exact ⟨Keep.refl _ _, rfl⟩
    · refine ⟨[], rfl, ?_⟩; rintro W1 hk vs hd
      replace hb := hb.lh hk
      replace hB := hB.trans hk
      refine ⟨true, fun a _ => rfl, fun _ => ?_, fun h => by cases h⟩
      refine a6 [(0, _)] ⟨rfl, trivial⟩ ?_
      refine (Gives.does (av rfl)).mono ?_
      rintro v W2 ⟨rfl, rfl⟩
      exact ⟨Keep.refl _ _, rfl⟩
    · refine ⟨[5], rfl, ?_⟩; rintro W1 hk vs hd
      have d5 : (vs 5) = .pointer (some ⟨p, 0, none⟩) := hd 5 (by decide)
      replace hb := hb.lh hk
      replace hB := hB.trans hk
      refine ⟨true, fun a _ => rfl, fun _ => ?_, fun h => by cases h⟩
      refine a6 [(8, .pointer (some ⟨p, 0, none⟩))] ⟨congrArg some d5, trivial⟩ ?_
      refine (Gives.does (ai rfl)).mono ?_
      rintro v W2 ⟨rfl, rfl⟩
      exact ⟨Keep.refl _ _, rfl⟩
    · refine ⟨[6], rfl, ?_⟩; rintro W1 hk vs hd
      have d6 : (vs 6) = .pointer (some ⟨p, 0, none⟩) := hd 6 (by decide)
      replace hb := hb.lh hk
      replace hB := hB.trans hk
      refine ⟨true, fun a _ => rfl, fun _ => ?_, fun h => by cases h⟩
      refine a6 [(9, .pointer (some ⟨p, 0, none⟩))] ⟨congrArg some d6, trivial⟩ ?_
      refine (Gives.does (ay aG rfl bJ (by decide) rfl)).mono ?_
      rintro v W2 ⟨rfl, rfl⟩
      exact ⟨Keep.refl _ _, rfl⟩
    · refine ⟨[7], rfl, ?_⟩; rintro W1 hk vs hd
      have d7 : (vs 7) = .pointer (some ⟨p, 0 + 1, none⟩) := hd 7 (by decide)
      replace hb := hb.lh hk
      replace hB := hB.trans hk
      refine ⟨true, fun a _ => rfl, fun _ => ?_, fun h => by cases h⟩
      refine a6 [(10, .pointer (some ⟨p, 0 + 1, none⟩))] ⟨congrArg some d7, trivial⟩ ?_
      refine (Gives.does (ac bZ rfl (by assumption) rfl)).mono ?_
      rintro v W2 ⟨rfl, rfl⟩
      exact ⟨Keep.refl _ _, rfl⟩
    · refine ⟨[4, 8], rfl, ?_⟩; rintro W1 hk vs hd
      have d4 : (vs 4) = .int .i64 (bs.length : Int) := hd 4 (by decide)
      have d8 : (vs 8) = .int .i64 (at_ : Int) := hd 8 (by decide)
      replace hB := hB.trans hk
      refine ⟨true, fun a _ => rfl, fun _ => ?_, fun h => by cases h⟩
      refine a6 [(7, .int .i64 (bs.length : Int)), (11, .int .i64 (at_ : Int))] ⟨congrArg some d4, congrArg some d8, trivial⟩ ?_
      refine (Gives.does (cy rfl rfl (by omega))).mono ?_
      rintro v W2 ⟨rfl, rfl⟩
      exact ⟨Keep.refl _ _, rfl⟩
    · refine ⟨[9], rfl, ?_⟩; rintro W1 hk vs hd
      have d9 : (vs 9) = .int .i64 ((bs.length : Int) - (at_ : Int)) := hd 9 (by decide)
      replace hB := hB.trans hk
      refine ⟨true, fun a _ => rfl, fun _ => ?_, fun h => by cases h⟩
      refine a6 [(12, .int .i64 ((bs.length : Int) - (at_ : Int)))] ⟨congrArg some d9, trivial⟩ ?_
      refine (Gives.does (ft rfl)).mono ?_
      rintro v W2 ⟨rfl, rfl⟩
      exact ⟨Keep.refl _ _, rfl⟩
  rintro w1 k1 vs hv
  have z_k1 := k1.size
  replace hB := hB.trans k1
  have e2 : (vs 10) = .int .i64 ((bs.length : Int) - (at_ : Int)) := hv 10 (by decide) rfl
  refine ab [(2, .int .i64 ((bs.length : Int) - (at_ : Int))), (0, _)] ⟨congrArg some e2, rfl, trivial⟩ ?_
  refine af hfin Tryd.results61 rfl ?_
  exact ⟨by congr 1; omega, hB⟩
theorem fX (p : Nat) (rest : List UInt8) (e size : Int) (w : World) (h : RdR w p rest e) (hs : 0 ≤ size ∧ size ≤ rest.length) (h8 : size ≤ 7 ∨ (size = 8 ∧ (rest.getD 0 0).toNat < 64)) : Rets Tryd.prog 62 [.pointer (some ⟨p, 0, none⟩), .int .i64 size] w (fun v w' => v = .int .i64 (num (rest.take size.toNat)) ∧ Keep [] w w') := by
  obtain ⟨bs, at_, bw, hb, hr, hn, hal, rfl, hbl⟩ := h
  have hB : Keep [] w w := Keep.refl _ _
  have hcap := hr.vcap
  have hdl : (bs.drop at_).length = bs.length - at_ := List.length_drop
  have hbound : ∀ i : Int, 0 ≤ i → i + 1 ≤ size → 0 ≤ num ((bs.drop at_).take i.toNat) ∧ num ((bs.drop at_).take i.toNat) * 256 + 255 < 9223372036854775808 := ew hs.2 h8
  refine ad Tryd.func62 rfl (by decide) Tryd.ntmps62 rfl (fun fin _ hfin => ?_)
  refine aY ?_
  refine aX ?_
  refine oga rfl rfl ?_
  refine aZ ?_
  refine aY ?_
  refine aX ?_
  refine oga rfl rfl ?_
  refine aZ ?_
  refine aY ?_
  refine aY ?_
  refine aX ?_
  refine oga rfl rfl ?_
  refine aZ ?_
  refine ag ?_
  refine bT (Γ := Int) (fun i => [(0, .pointer (some ⟨p, 0, none⟩)), (1, .int .i64 size), (5, .int .i64 (num ((bs.drop at_).take i.toNat))), (6, .int .i64 i)]) (fun i W => 0 ≤ i ∧ i ≤ size ∧ Keep [] w W) (fun i => (size - i).toNat) 0 ⟨rfl, rfl, rfl, rfl, trivial⟩ (⟨by decide, by omega, hB⟩) ?_
  rintro i w1 ⟨hi0, hi1, hB⟩
  refine ab [(0, .pointer (some ⟨p, 0, none⟩)), (1, .int .i64 size), (5, .int .i64 (num ((bs.drop at_).take i.toNat))), (6, .int .i64 i)] ⟨rfl, rfl, rfl, rfl, trivial⟩ ?_
  replace hb := hb.lh hB
  refine aY ?_
  refine aY ?_
  refine aX ?_
  refine ogm rfl rfl ?_
  refine ogm rfl rfl ?_
  refine a4 (bO rfl rfl) rfl ?_
  refine aZ ?_
  refine ar rfl (fun hc1 => ?_) (fun hc1 => ?_)
  · -- yes
    refine a8 ?_
    refine aY ?_
    refine ag ?_
    obtain ⟨x, hx⟩ : ∃ x, (bs.drop at_)[i.toNat]? = some x := ⟨_, List.getElem?_eq_getElem (by omega)⟩
    have hgb : gb bs ((at_ : Int) + i) = x.toNat := by unfold gb; rw [List.getD_eq_getElem?_getD, show ((at_ : Int) + i).toNat = at_ + i.toNat from by omega, ← List.getElem?_drop, hx]; rfl
    have hxl := x.toNat_lt
    have hnum : num ((bs.drop at_).take (i + 1).toNat) = num ((bs.drop at_).take i.toNat) * 256 + x.toNat := by rw [show (i + 1).toNat = i.toNat + 1 from by omega, bl hx, ey]
    have hbd := hbound i hi0 (by omega)
    have hor : bits .or .i64 (num ((bs.drop at_).take i.toNat) * 256) (gb bs ((at_ : Int) + i)) = num ((bs.drop at_).take (i + 1).toNat) := by rw [hnum, hgb]; exact jY 8 (by omega) (by omega) (by omega) (by omega) (by omega) (by omega)
    have hgr := f6 bs ((at_ : Int) + i)
    refine dU 16 mixed [(0, _), (6, _), (1, _), (5, _), (7, _), (8, _), (9, _)] (fun jj v W => match jj with | 0 => v = .int .i64 (num ((bs.drop at_).take i.toNat)) | 1 => v = .int .i64 ((num ((bs.drop at_).take i.toNat)) * 256) | 2 => v = .pointer (some ⟨p, 0, none⟩) | 3 => v = .pointer (some ⟨p, 0, none⟩) | 4 => v = .pointer (some ⟨p, 0 + 0, none⟩) | 5 => v = bw | 6 => v = .pointer (some ⟨p, 0, none⟩) | 7 => v = .pointer (some ⟨p, 0, none⟩) | 8 => v = .pointer (some ⟨p, 0 + 1, none⟩) | 9 => v = .int .i64 (at_ : Int) | 10 => v = .int .i64 i | 11 => v = .int .i64 ((at_ : Int) + i) | 12 => v = .pointer (some (ea bw ((((at_ : Int) + i)).toNat * 1))) | 13 => v = .int .u8 (gb bs (((at_ : Int) + i))) | 14 => v = .int .i64 (gb bs (((at_ : Int) + i))) | 15 => v = .int .i64 (bits .or .i64 ((num ((bs.drop at_).take i.toNat)) * 256) (gb bs (((at_ : Int) + i)))) | _ => True) ⟨rfl, rfl, rfl, rfl, rfl, rfl, rfl, trivial⟩ (by decide) (by decide) rfl ?_ ?_ ?_
    · intro jj v W W' h k
      match jj, h with
      | 0, h => exact h
      | 1, h => exact h
      | 2, h => exact h
      | 3, h => exact h
      | 4, h => exact h
      | 5, h => exact h
      | 6, h => exact h
      | 7, h => exact h
      | 8, h => exact h
      | 9, h => exact h
      | 10, h => exact h
      | 11, h => exact h
      | 12, h => exact h
      | 13, h => exact h
      | 14, h => exact h
      | 15, h => exact h
      | _ + 16, _ => trivial
    · refine ⟨?_, ?_, ?_, ?_, ?_, ?_, ?_, ?_, ?_, ?_, ?_, ?_, ?_, ?_, ?_, ?_, trivial⟩
      · refine ⟨[], rfl, ?_⟩; rintro W1 hk vs hd
        replace hb := hb.lh hk
        replace hB := hB.trans hk
        refine ⟨true, fun a _ => rfl, fun _ => ?_, fun h => by cases h⟩
        refine a6 [(5, _)] ⟨rfl, trivial⟩ ?_
        refine (Gives.does (av rfl)).mono ?_
        rintro v W2 ⟨rfl, rfl⟩
        exact ⟨Keep.refl _ _, rfl⟩
      · refine ⟨[0], rfl, ?_⟩; rintro W1 hk vs hd
        have d0 : (vs 0) = .int .i64 (num ((bs.drop at_).take i.toNat)) := hd 0 (by decide)
        replace hb := hb.lh hk
        replace hB := hB.trans hk
        refine ⟨true, fun a _ => rfl, fun _ => ?_, fun h => by cases h⟩
        refine a6 [(12, .int .i64 (num ((bs.drop at_).take i.toNat)))] ⟨congrArg some d0, trivial⟩ ?_
        refine (Gives.does (jq (m := 256) rfl rfl (by decide) (by decide) (by omega))).mono ?_
        rintro v W2 ⟨rfl, rfl⟩
        exact ⟨Keep.refl _ _, rfl⟩
      · refine ⟨[], rfl, ?_⟩; rintro W1 hk vs hd
        replace hb := hb.lh hk
        replace hB := hB.trans hk
        refine ⟨true, fun a _ => rfl, fun _ => ?_, fun h => by cases h⟩
        refine a6 [(0, _)] ⟨rfl, trivial⟩ ?_
        refine (Gives.does (av rfl)).mono ?_
        rintro v W2 ⟨rfl, rfl⟩
        exact ⟨Keep.refl _ _, rfl⟩
      · refine ⟨[2], rfl, ?_⟩; rintro W1 hk vs hd
        have d2 : (vs 2) = .pointer (some ⟨p, 0, none⟩) := hd 2 (by decide)
        replace hb := hb.lh hk
        replace hB := hB.trans hk
        refine ⟨true, fun a _ => rfl, fun _ => ?_, fun h => by cases h⟩
        refine a6 [(14, .pointer (some ⟨p, 0, none⟩))] ⟨congrArg some d2, trivial⟩ ?_
        refine (Gives.does (ai rfl)).mono ?_
        rintro v W2 ⟨rfl, rfl⟩
        exact ⟨Keep.refl _ _, rfl⟩
      · refine ⟨[3], rfl, ?_⟩; rintro W1 hk vs hd
        have d3 : (vs 3) = .pointer (some ⟨p, 0, none⟩) := hd 3 (by decide)
        replace hb := hb.lh hk
        replace hB := hB.trans hk
        refine ⟨true, fun a _ => rfl, fun _ => ?_, fun h => by cases h⟩
        refine a6 [(15, .pointer (some ⟨p, 0, none⟩))] ⟨congrArg some d3, trivial⟩ ?_
        refine (Gives.does (ay aG rfl az (by decide) rfl)).mono ?_
        rintro v W2 ⟨rfl, rfl⟩
        exact ⟨Keep.refl _ _, rfl⟩
      · refine ⟨[4], rfl, ?_⟩; rintro W1 hk vs hd
        have d4 : (vs 4) = .pointer (some ⟨p, 0 + 0, none⟩) := hd 4 (by decide)
        replace hb := hb.lh hk
        replace hB := hB.trans hk
        refine ⟨true, fun a _ => rfl, fun _ => ?_, fun h => by cases h⟩
        refine a6 [(16, .pointer (some ⟨p, 0 + 0, none⟩))] ⟨congrArg some d4, trivial⟩ ?_
        refine (Gives.does (ac ba rfl (by assumption) rfl)).mono ?_
        rintro v W2 ⟨rfl, rfl⟩
        exact ⟨Keep.refl _ _, rfl⟩
      · refine ⟨[], rfl, ?_⟩; rintro W1 hk vs hd
        replace hb := hb.lh hk
        replace hB := hB.trans hk
        refine ⟨true, fun a _ => rfl, fun _ => ?_, fun h => by cases h⟩
        refine a6 [(0, _)] ⟨rfl, trivial⟩ ?_
        refine (Gives.does (av rfl)).mono ?_
        rintro v W2 ⟨rfl, rfl⟩
        exact ⟨Keep.refl _ _, rfl⟩
      · refine ⟨[6], rfl, ?_⟩; rintro W1 hk vs hd
        have d6 : (vs 6) = .pointer (some ⟨p, 0, none⟩) := hd 6 (by decide)
        replace hb := hb.lh hk
        replace hB := hB.trans hk
        refine ⟨true, fun a _ => rfl, fun _ => ?_, fun h => by cases h⟩
        refine a6 [(18, .pointer (some ⟨p, 0, none⟩))] ⟨congrArg some d6, trivial⟩ ?_
        refine (Gives.does (ai rfl)).mono ?_
        rintro v W2 ⟨rfl, rfl⟩
        exact ⟨Keep.refl _ _, rfl⟩
      · refine ⟨[7], rfl, ?_⟩; rintro W1 hk vs hd
        have d7 : (vs 7) = .pointer (some ⟨p, 0, none⟩) := hd 7 (by decide)
        replace hb := hb.lh hk
        replace hB := hB.trans hk
        refine ⟨true, fun a _ => rfl, fun _ => ?_, fun h => by cases h⟩
        refine a6 [(19, .pointer (some ⟨p, 0, none⟩))] ⟨congrArg some d7, trivial⟩ ?_
        refine (Gives.does (ay aG rfl bJ (by decide) rfl)).mono ?_
        rintro v W2 ⟨rfl, rfl⟩
        exact ⟨Keep.refl _ _, rfl⟩
      · refine ⟨[8], rfl, ?_⟩; rintro W1 hk vs hd
        have d8 : (vs 8) = .pointer (some ⟨p, 0 + 1, none⟩) := hd 8 (by decide)
        replace hb := hb.lh hk
        replace hB := hB.trans hk
        refine ⟨true, fun a _ => rfl, fun _ => ?_, fun h => by cases h⟩
        refine a6 [(20, .pointer (some ⟨p, 0 + 1, none⟩))] ⟨congrArg some d8, trivial⟩ ?_
        refine (Gives.does (ac bZ rfl (by assumption) rfl)).mono ?_
        rintro v W2 ⟨rfl, rfl⟩
        exact ⟨Keep.refl _ _, rfl⟩
      · refine ⟨[], rfl, ?_⟩; rintro W1 hk vs hd
        replace hb := hb.lh hk
        replace hB := hB.trans hk
        refine ⟨true, fun a _ => rfl, fun _ => ?_, fun h => by cases h⟩
        refine a6 [(6, _)] ⟨rfl, trivial⟩ ?_
        refine (Gives.does (av rfl)).mono ?_
        rintro v W2 ⟨rfl, rfl⟩
        exact ⟨Keep.refl _ _, rfl⟩
      · refine ⟨[9, 10], rfl, ?_⟩; rintro W1 hk vs hd
        have d9 : (vs 9) = .int .i64 (at_ : Int) := hd 9 (by decide)
        have d10 : (vs 10) = .int .i64 i := hd 10 (by decide)
        replace hb := hb.lh hk
        replace hB := hB.trans hk
        refine ⟨true, fun a _ => rfl, fun _ => ?_, fun h => by cases h⟩
        refine a6 [(21, .int .i64 (at_ : Int)), (22, .int .i64 i)] ⟨congrArg some d9, congrArg some d10, trivial⟩ ?_
        refine (Gives.does (br rfl rfl (by omega))).mono ?_
        rintro v W2 ⟨rfl, rfl⟩
        exact ⟨Keep.refl _ _, rfl⟩
      · refine ⟨[5, 11], rfl, ?_⟩; rintro W1 hk vs hd
        have d5 : (vs 5) = bw := hd 5 (by decide)
        have d11 : (vs 11) = .int .i64 ((at_ : Int) + i) := hd 11 (by decide)
        replace hb := hb.lh hk
        replace hB := hB.trans hk
        refine ⟨true, fun a _ => rfl, fun _ => ?_, fun h => by cases h⟩
        refine a6 [(17, bw), (23, .int .i64 ((at_ : Int) + i))] ⟨congrArg some d5, congrArg some d11, trivial⟩ ?_
        refine (Gives.does (bR aA bu rfl (by first | assumption | exact Own.rd (by assumption) | exact Rd.lh (by assumption) hB | exact Own.rd (Own.lh (by assumption) hB)) rfl (by omega))).mono ?_
        rintro v W2 ⟨rfl, rfl⟩
        exact ⟨Keep.refl _ _, rfl⟩
      · refine ⟨[12], rfl, ?_⟩; rintro W1 hk vs hd
        have d12 : (vs 12) = .pointer (some (ea bw ((((at_ : Int) + i)).toNat * 1))) := hd 12 (by decide)
        replace hb := hb.lh hk
        replace hB := hB.trans hk
        refine ⟨true, fun a _ => rfl, fun _ => ?_, fun h => by cases h⟩
        refine a6 [(24, .pointer (some (ea bw ((((at_ : Int) + i)).toNat * 1))))] ⟨congrArg some d12, trivial⟩ ?_
        refine (Gives.does (eK jR rfl (by first | assumption | exact Own.rd (by assumption) | exact Rd.lh (by assumption) hB | exact Own.rd (Own.lh (by assumption) hB)) (by omega))).mono ?_
        rintro v W2 ⟨rfl, rfl⟩
        exact ⟨Keep.refl _ _, rfl⟩
      · refine ⟨[13], rfl, ?_⟩; rintro W1 hk vs hd
        have d13 : (vs 13) = .int .u8 (gb bs (((at_ : Int) + i))) := hd 13 (by decide)
        replace hB := hB.trans hk
        refine ⟨true, fun a _ => rfl, fun _ => ?_, fun h => by cases h⟩
        refine a6 [(25, .int .u8 (gb bs (((at_ : Int) + i))))] ⟨congrArg some d13, trivial⟩ ?_
        refine (Gives.does (jr (by rw [aI]; rfl) aK rfl (by omega))).mono ?_
        rintro v W2 ⟨rfl, rfl⟩
        exact ⟨Keep.refl _ _, rfl⟩
      · refine ⟨[1, 14], rfl, ?_⟩; rintro W1 hk vs hd
        have d1 : (vs 1) = .int .i64 ((num ((bs.drop at_).take i.toNat)) * 256) := hd 1 (by decide)
        have d14 : (vs 14) = .int .i64 (gb bs (((at_ : Int) + i))) := hd 14 (by decide)
        replace hB := hB.trans hk
        refine ⟨true, fun a _ => rfl, fun _ => ?_, fun h => by cases h⟩
        refine a6 [(13, .int .i64 ((num ((bs.drop at_).take i.toNat)) * 256)), (26, .int .i64 (gb bs (((at_ : Int) + i))))] ⟨congrArg some d1, congrArg some d14, trivial⟩ ?_
        refine (Gives.does (j4 rfl rfl)).mono ?_
        rintro v W2 ⟨rfl, rfl⟩
        exact ⟨Keep.refl _ _, rfl⟩
    rintro w2 k1 vs hv
    have z_k1 := k1.size
    replace hB := hB.trans k1
    have e27 : (vs 15) = .int .i64 (bits .or .i64 ((num ((bs.drop at_).take i.toNat)) * 256) (gb bs (((at_ : Int) + i)))) := hv 15 (by decide) rfl
    refine dR [(27, .int .i64 (bits .or .i64 ((num ((bs.drop at_).take i.toNat)) * 256) (gb bs (((at_ : Int) + i))))), (0, _), (6, _), (1, _), (5, _), (7, _), (8, _), (9, _)] ⟨congrArg some e27, rfl, rfl, rfl, rfl, rfl, rfl, rfl, trivial⟩ ?_
    refine oga rfl rfl ?_
    refine aZ ?_
    refine bg ?_
    refine aX ?_
    refine ogm rfl rfl ?_
    refine a4 (br rfl rfl (by omega)) rfl ?_
    refine oga rfl rfl ?_
    refine aZ ?_
    refine bd (Γ := Int) (i + 1) ⟨rfl, rfl, congrArg (fun z : Int => some (Value.int .i64 z)) hor, rfl, trivial⟩ (by (try dsimp only); omega) (⟨by omega, by omega, hB⟩)
  · -- no
    refine bN rfl ?_
    refine aY ?_
    refine aX ?_
    refine ogm rfl rfl ?_
    refine oga rfl rfl ?_
    refine aZ ?_
    refine af hfin Tryd.results62 rfl ?_
    obtain rfl : i = size := by omega
    exact ⟨rfl, hB⟩
theorem kN (v : Value) (xs : List UInt8) (w : World) (hv : RdB w v xs) (hx : xs.length ≤ 140737488355328) : Rets Tryd.prog 36 [v] w (fun r w' => ∃ p, r = .pointer (some ⟨p, 0, none⟩) ∧ RdRL w' w.heap.size p xs 0 ∧ Keep [] w w') := by
 have hB : Keep [] w w := Keep.refl _ _
 refine ad Tryd.func36 rfl (by decide) Tryd.ntmps36 rfl (fun fin _ hfin => ?_)
 refine aY (aX (oga rfl rfl (aZ (aY (aX (ah (dA (m := 0) (xs := []) (vs := []) aA bu (by decide) rfl rfl rfl (by first | (simp; done) | (intro v hv; rw [List.mem_singleton] at hv; subst hv; rfl)) (by decide)) rfl ?_))))))
 rintro v1 w1 ⟨o1, nn1, lb1, k1, z1⟩
 have z_k1 := k1.size
 replace hB := hB.trans k1
 have u_o1 := o1.blk
 replace o1 : Own w1 _ _ 1 v1 0 (bv []) := o1
 refine ogm rfl rfl (ah (bS  aA bu rfl (by first | assumption | exact a9 _ _ _ _) rfl (by first | assumption | exact Own.rd ‹_› | exact Rd.lh ‹_› hB | exact Own.rd (Own.lh ‹_› hB)) (by first | omega | (simp only [bL, List.length_append, Int.toNat_natCast] at *; omega)) (by have := hB.size; omega)) rfl ?_)
 rintro v2 w2 ⟨o2, k2, lb2, nn2⟩
 have z_k2 := k2.size
 replace hB := hB.new k2 (fun x hx => .inl (o1.blk x hx).1)
 have u_o2 := fun x hx => (lb2 x hx).elim (fun h => Or.inl (u_o1 x h)) (fun h => Or.inr (And.intro h (o2.blk x hx).2))
 refine a4 (cL (idx := [0]) (xs := [.tmp 5]) (vs := [_]) (css := [[_]]) (out := [_, _, _]) pl81 ty81 rfl rfl ⟨Rd.cells (by first | assumption | exact Own.rd ‹_› | exact Rd.lh ‹_› hB | exact Own.rd (Own.lh ‹_› hB)), trivial⟩ rfl rfl) rfl ?_
 refine ah (bz (cs := [_, _, _]) rfl rfl) rfl ?_
 rintro _ w3 ⟨b1, rfl, eb1, hb1, k3, z2⟩
 have z_k3 := k3.size
 replace o2 := o2.lh k3
 replace hB := hB.trans k3
 refine oga rfl rfl (aZ (af hfin Tryd.results36 rfl ?_))
 exact ⟨_, rfl, ⟨by omega, xs, 0, _, hb1, by simpa using o2.rd, fun x hx => by have := u_o2 x hx; omega, Nat.zero_le _, rfl, hx⟩, hB⟩
theorem kM (p at_ : Nat) (bs : List UInt8) (bw : Value) (e : Int) (w : World) (h : RdA w p bs bw at_ e) : Rets Tryd.prog 63 [.pointer (some ⟨p, 0, none⟩)] w (fun v w' => ∃ r a2, r = rLen (bs.drop at_) e ∧ v = .int .i64 r.1 ∧ RdA w' p bs bw a2 r.2.2 ∧ r.2.1 = bs.drop a2 ∧ Keep [p] w w') := by
  obtain ⟨hb, hr, hn, hal, hbl⟩ := h
  have hB : Keep [p] w w := Keep.refl _ _
  have hcap := hr.vcap
  have hdl : (bs.drop at_).length = bs.length - at_ := List.length_drop
  have hg0 : gb bs (at_ : Int) = (((bs.drop at_).getD 0 0).toNat : Int) := by unfold gb; rw [List.getD_eq_getElem?_getD, List.getD_eq_getElem?_getD, List.getElem?_drop, Int.toNat_natCast, Nat.add_zero]
  have hgr := f6 bs (at_ : Int)
  have hnb : ∀ n, n ≤ 7 → 0 ≤ num ((bs.drop at_).take n) ∧ num ((bs.drop at_).take n) < 9223372036854775808 := iA (bs.drop at_)
  have htop0 : (bs.drop at_).length = 0 → top (bs.drop at_) = 0 := by intro h0; rw [List.length_eq_zero_iff] at h0; rw [h0]; rfl
  refine ad Tryd.func63 rfl (by decide) Tryd.ntmps63 rfl (fun fin _ hfin => ?_)
  refine aY ?_
  refine aX ?_
  refine oga rfl rfl ?_
  refine aZ ?_
  refine aY ?_
  refine aY ?_
  refine aX ?_
  refine ogm rfl rfl ?_
  refine a4 (ai rfl) rfl ?_
  refine a4 (ay aG rfl bJ (by decide) rfl) rfl ?_
  refine a4 (ac bZ rfl (by assumption) rfl) rfl ?_
  refine a4 (cC rfl rfl) rfl ?_
  refine aZ ?_
  refine ar rfl (fun hc1 => ?_) (fun hc1 => ?_)
  · -- yes
    refine aY ?_
    refine aX ?_
    refine oga rfl rfl ?_
    refine aZ ?_
    refine af hfin Tryd.results63 rfl ?_
    refine ⟨(0, bs.drop at_, e), at_, ?_, rfl, ⟨hb, hr, hn, by omega, hbl⟩, rfl, hB⟩
    unfold rLen
    try rw [htop]
    try simp only [Nat.reducePow, Nat.reduceMul, Nat.reduceSub, Int.reducePow]
    repeat (first | rw [if_pos (by assumption)] | rw [if_neg (by assumption)] | rw [if_pos (by omega)] | rw [if_neg (by omega)])
    all_goals first | rfl | (refine Prod.ext rfl (Prod.ext rfl ?_); show _ = _; dsimp only; omega)
  · -- no
    refine a8 ?_
    refine aY ?_
    refine aY ?_
    refine aX ?_
    refine ogm rfl rfl ?_
    refine ah (a7 (vs := [_]) rfl (dk _ _ _ _ (by exact ⟨bs, at_, bw, by assumption, by assumption, hn, hal, rfl, hbl⟩))) rfl ?_
    rintro _ w1 ⟨rfl, k1⟩
    have z_k1 := k1.size
    replace hb := hb.lh k1
    replace hr := hr.lh k1
    replace hB := hB.trans k1.weak
    refine a4 (bF rfl rfl) rfl ?_
    refine aZ ?_
    refine ar rfl (fun hc2 => ?_) (fun hc2 => ?_)
    · -- yes
      refine aY ?_
      refine aX ?_
      refine ogm rfl rfl ?_
      refine a4 (ai rfl) rfl ?_
      refine a4 (ay aG rfl bJ (by decide) rfl) rfl ?_
      refine am (bQ bJ rfl rfl rfl hb rfl) ?_
      rintro _ w2 ⟨hb1, k2, z1⟩
      have z_k2 := k2.size
      replace hr := hr.keep k2 (fun x hx hm => Nat.ne_of_lt (hn x hx) (List.mem_singleton.1 hm))
      replace hB := hB.trans k2
      refine aZ ?_
      refine aY ?_
      refine aX ?_
      refine oga rfl rfl ?_
      refine aZ ?_
      refine af hfin Tryd.results63 rfl ?_
      have htop := htop0 (by omega)
      refine ⟨(0, bs.drop at_, 20), at_, ?_, rfl, ⟨hb1, hr, hn, by omega, hbl⟩, rfl, hB⟩
      unfold rLen
      try rw [htop]
      try simp only [Nat.reducePow, Nat.reduceMul, Nat.reduceSub, Int.reducePow]
      repeat (first | rw [if_pos (by assumption)] | rw [if_neg (by assumption)] | rw [if_pos (by omega)] | rw [if_neg (by omega)])
      all_goals first | rfl | (refine Prod.ext rfl (Prod.ext rfl ?_); show _ = _; dsimp only; omega)
    · -- no
      refine a8 ?_
      refine aY ?_
      refine dU 12 mixed [(0, _), (2, _), (6, _), (7, _), (8, _), (9, _), (10, _), (11, _), (12, _), (13, _)] (fun jj v W => match jj with | 0 => v = .pointer (some ⟨p, 0, none⟩) | 1 => v = .pointer (some ⟨p, 0, none⟩) | 2 => v = .pointer (some ⟨p, 0 + 0, none⟩) | 3 => v = bw | 4 => v = .pointer (some ⟨p, 0, none⟩) | 5 => v = .pointer (some ⟨p, 0, none⟩) | 6 => v = .pointer (some ⟨p, 0 + 1, none⟩) | 7 => v = .int .i64 (at_ : Int) | 8 => v = .pointer (some (ea bw (((at_ : Int)).toNat * 1))) | 9 => v = .int .u8 (gb bs ((at_ : Int))) | 10 => v = .int .u8 ((gb bs ((at_ : Int))) / 64) | 11 => v = .int .i64 ((gb bs ((at_ : Int))) / 64) | _ => True) ⟨rfl, rfl, rfl, rfl, rfl, rfl, rfl, rfl, rfl, rfl, trivial⟩ (by decide) (by decide) rfl ?_ ?_ ?_
      · intro jj v W W' h k
        match jj, h with
        | 0, h => exact h
        | 1, h => exact h
        | 2, h => exact h
        | 3, h => exact h
        | 4, h => exact h
        | 5, h => exact h
        | 6, h => exact h
        | 7, h => exact h
        | 8, h => exact h
        | 9, h => exact h
        | 10, h => exact h
        | 11, h => exact h
        | _ + 12, _ => trivial
      · refine ⟨?_, ?_, ?_, ?_, ?_, ?_, ?_, ?_, ?_, ?_, ?_, ?_, trivial⟩
        · refine ⟨[], rfl, ?_⟩; rintro W1 hk vs hd
          replace hb := hb.lh hk
          replace hr := hr.lh hk
          replace hB := hB.trans hk.weak
          refine ⟨true, fun a _ => rfl, fun _ => ?_, fun h => by cases h⟩
          refine a6 [(0, _)] ⟨rfl, trivial⟩ ?_
          refine (Gives.does (av rfl)).mono ?_
          rintro v W2 ⟨rfl, rfl⟩
          exact ⟨Keep.refl _ _, rfl⟩
        · refine ⟨[0], rfl, ?_⟩; rintro W1 hk vs hd
          have d0 : (vs 0) = .pointer (some ⟨p, 0, none⟩) := hd 0 (by decide)
          replace hb := hb.lh hk
          replace hr := hr.lh hk
          replace hB := hB.trans hk.weak
          refine ⟨true, fun a _ => rfl, fun _ => ?_, fun h => by cases h⟩
          refine a6 [(17, .pointer (some ⟨p, 0, none⟩))] ⟨congrArg some d0, trivial⟩ ?_
          refine (Gives.does (ai rfl)).mono ?_
          rintro v W2 ⟨rfl, rfl⟩
          exact ⟨Keep.refl _ _, rfl⟩
        · refine ⟨[1], rfl, ?_⟩; rintro W1 hk vs hd
          have d1 : (vs 1) = .pointer (some ⟨p, 0, none⟩) := hd 1 (by decide)
          replace hb := hb.lh hk
          replace hr := hr.lh hk
          replace hB := hB.trans hk.weak
          refine ⟨true, fun a _ => rfl, fun _ => ?_, fun h => by cases h⟩
          refine a6 [(18, .pointer (some ⟨p, 0, none⟩))] ⟨congrArg some d1, trivial⟩ ?_
          refine (Gives.does (ay aG rfl az (by decide) rfl)).mono ?_
          rintro v W2 ⟨rfl, rfl⟩
          exact ⟨Keep.refl _ _, rfl⟩
        · refine ⟨[2], rfl, ?_⟩; rintro W1 hk vs hd
          have d2 : (vs 2) = .pointer (some ⟨p, 0 + 0, none⟩) := hd 2 (by decide)
          replace hb := hb.lh hk
          replace hr := hr.lh hk
          replace hB := hB.trans hk.weak
          refine ⟨true, fun a _ => rfl, fun _ => ?_, fun h => by cases h⟩
          refine a6 [(19, .pointer (some ⟨p, 0 + 0, none⟩))] ⟨congrArg some d2, trivial⟩ ?_
          refine (Gives.does (ac ba rfl (by assumption) rfl)).mono ?_
          rintro v W2 ⟨rfl, rfl⟩
          exact ⟨Keep.refl _ _, rfl⟩
        · refine ⟨[], rfl, ?_⟩; rintro W1 hk vs hd
          replace hb := hb.lh hk
          replace hr := hr.lh hk
          replace hB := hB.trans hk.weak
          refine ⟨true, fun a _ => rfl, fun _ => ?_, fun h => by cases h⟩
          refine a6 [(0, _)] ⟨rfl, trivial⟩ ?_
          refine (Gives.does (av rfl)).mono ?_
          rintro v W2 ⟨rfl, rfl⟩
          exact ⟨Keep.refl _ _, rfl⟩
        · refine ⟨[4], rfl, ?_⟩; rintro W1 hk vs hd
          have d4 : (vs 4) = .pointer (some ⟨p, 0, none⟩) := hd 4 (by decide)
          replace hb := hb.lh hk
          replace hr := hr.lh hk
          replace hB := hB.trans hk.weak
          refine ⟨true, fun a _ => rfl, fun _ => ?_, fun h => by cases h⟩
          refine a6 [(21, .pointer (some ⟨p, 0, none⟩))] ⟨congrArg some d4, trivial⟩ ?_
          refine (Gives.does (ai rfl)).mono ?_
          rintro v W2 ⟨rfl, rfl⟩
          exact ⟨Keep.refl _ _, rfl⟩
        · refine ⟨[5], rfl, ?_⟩; rintro W1 hk vs hd
          have d5 : (vs 5) = .pointer (some ⟨p, 0, none⟩) := hd 5 (by decide)
          replace hb := hb.lh hk
          replace hr := hr.lh hk
          replace hB := hB.trans hk.weak
          refine ⟨true, fun a _ => rfl, fun _ => ?_, fun h => by cases h⟩
          refine a6 [(22, .pointer (some ⟨p, 0, none⟩))] ⟨congrArg some d5, trivial⟩ ?_
          refine (Gives.does (ay aG rfl bJ (by decide) rfl)).mono ?_
          rintro v W2 ⟨rfl, rfl⟩
          exact ⟨Keep.refl _ _, rfl⟩
        · refine ⟨[6], rfl, ?_⟩; rintro W1 hk vs hd
          have d6 : (vs 6) = .pointer (some ⟨p, 0 + 1, none⟩) := hd 6 (by decide)
          replace hb := hb.lh hk
          replace hr := hr.lh hk
          replace hB := hB.trans hk.weak
          refine ⟨true, fun a _ => rfl, fun _ => ?_, fun h => by cases h⟩
          refine a6 [(23, .pointer (some ⟨p, 0 + 1, none⟩))] ⟨congrArg some d6, trivial⟩ ?_
          refine (Gives.does (ac bZ rfl (by assumption) rfl)).mono ?_
          rintro v W2 ⟨rfl, rfl⟩
          exact ⟨Keep.refl _ _, rfl⟩
        · refine ⟨[3, 7], rfl, ?_⟩; rintro W1 hk vs hd
          have d3 : (vs 3) = bw := hd 3 (by decide)
          have d7 : (vs 7) = .int .i64 (at_ : Int) := hd 7 (by decide)
          replace hb := hb.lh hk
          replace hr := hr.lh hk
          replace hB := hB.trans hk.weak
          refine ⟨true, fun a _ => rfl, fun _ => ?_, fun h => by cases h⟩
          refine a6 [(20, bw), (24, .int .i64 (at_ : Int))] ⟨congrArg some d3, congrArg some d7, trivial⟩ ?_
          refine (Gives.does (bR aA bu rfl (by first | assumption | exact Own.rd (by assumption) | exact Rd.lh (by assumption) hB | exact Own.rd (Own.lh (by assumption) hB)) rfl (by omega))).mono ?_
          rintro v W2 ⟨rfl, rfl⟩
          exact ⟨Keep.refl _ _, rfl⟩
        · refine ⟨[8], rfl, ?_⟩; rintro W1 hk vs hd
          have d8 : (vs 8) = .pointer (some (ea bw (((at_ : Int)).toNat * 1))) := hd 8 (by decide)
          replace hb := hb.lh hk
          replace hr := hr.lh hk
          replace hB := hB.trans hk.weak
          refine ⟨true, fun a _ => rfl, fun _ => ?_, fun h => by cases h⟩
          refine a6 [(25, .pointer (some (ea bw (((at_ : Int)).toNat * 1))))] ⟨congrArg some d8, trivial⟩ ?_
          refine (Gives.does (eK jR rfl (by first | assumption | exact Own.rd (by assumption) | exact Rd.lh (by assumption) hB | exact Own.rd (Own.lh (by assumption) hB)) (by omega))).mono ?_
          rintro v W2 ⟨rfl, rfl⟩
          exact ⟨Keep.refl _ _, rfl⟩
        · refine ⟨[9], rfl, ?_⟩; rintro W1 hk vs hd
          have d9 : (vs 9) = .int .u8 (gb bs ((at_ : Int))) := hd 9 (by decide)
          replace hb := hb.lh hk
          replace hr := hr.lh hk
          replace hB := hB.trans hk.weak
          refine ⟨true, fun a _ => rfl, fun _ => ?_, fun h => by cases h⟩
          refine a6 [(26, .int .u8 (gb bs ((at_ : Int))))] ⟨congrArg some d9, trivial⟩ ?_
          refine (Gives.does (ef (m := 64) rfl rfl (by decide) (by decide))).mono ?_
          rintro v W2 ⟨rfl, rfl⟩
          exact ⟨Keep.refl _ _, rfl⟩
        · refine ⟨[10], rfl, ?_⟩; rintro W1 hk vs hd
          have d10 : (vs 10) = .int .u8 ((gb bs ((at_ : Int))) / 64) := hd 10 (by decide)
          replace hb := hb.lh hk
          replace hr := hr.lh hk
          replace hB := hB.trans hk.weak
          refine ⟨true, fun a _ => rfl, fun _ => ?_, fun h => by cases h⟩
          refine a6 [(27, .int .u8 ((gb bs ((at_ : Int))) / 64))] ⟨congrArg some d10, trivial⟩ ?_
          refine (Gives.does (jr (by rw [aI]; rfl) aK rfl (by omega))).mono ?_
          rintro v W2 ⟨rfl, rfl⟩
          exact ⟨Keep.refl _ _, rfl⟩
      rintro w3 k3 vs hv
      have z_k3 := k3.size
      replace hb := hb.lh k3
      replace hr := hr.lh k3
      replace hB := hB.trans k3.weak
      have e28 : (vs 11) = .int .i64 ((gb bs ((at_ : Int))) / 64) := hv 11 (by decide) rfl
      refine dR [(28, .int .i64 ((gb bs ((at_ : Int))) / 64)), (0, _), (2, _), (6, _), (7, _), (8, _), (9, _), (10, _), (11, _), (12, _), (13, _)] ⟨congrArg some e28, rfl, rfl, rfl, rfl, rfl, rfl, rfl, rfl, rfl, rfl, trivial⟩ ?_
      refine oga rfl rfl ?_
      refine aZ ?_
      refine aY ?_
      refine aY ?_
      rcases (show gb bs (at_ : Int) / 64 = 0 ∨ gb bs (at_ : Int) / 64 = 1 ∨ gb bs (at_ : Int) / 64 = 2 ∨ gb bs (at_ : Int) / 64 = 3 by omega) with hq | hq | hq | hq
      · have htop : top (bs.drop at_) = 0 := by unfold top; omega
        rw [hq]
        refine aX ?_
        refine ogm rfl rfl ?_
        refine a4 (bF rfl rfl) rfl ?_
        refine aZ ?_
        refine co rfl (by decide) ?_
        refine a8 ?_
        refine aY ?_
        refine aX ?_
        refine ogm rfl rfl ?_
        refine a4 (eh (by rw [aK]; rfl) aP rfl (by omega)) rfl ?_
        refine a4 (ak (j := 1) (cz rfl rfl (by decide)) (by decide)) rfl ?_
        refine oga rfl rfl ?_
        refine aZ ?_
        refine aY ?_
        refine aY ?_
        refine aX ?_
        refine ogm rfl rfl ?_
        refine ah (a7 (vs := [_]) rfl (dk _ _ _ _ (by exact ⟨bs, at_, bw, by assumption, by assumption, hn, hal, rfl, hbl⟩))) rfl ?_
        rintro _ w4 ⟨rfl, k4⟩
        have z_k4 := k4.size
        replace hb := hb.lh k4
        replace hr := hr.lh k4
        replace hB := hB.trans k4.weak
        refine ogm rfl rfl ?_
        refine a4 (bO rfl rfl) rfl ?_
        refine aZ ?_
        refine ar rfl (fun hc3 => ?_) (fun hc3 => ?_)
        · -- yes
          refine aY ?_
          refine aX ?_
          refine ogm rfl rfl ?_
          refine a4 (ai rfl) rfl ?_
          refine a4 (ay aG rfl bJ (by decide) rfl) rfl ?_
          refine am (bQ bJ rfl rfl rfl hb rfl) ?_
          rintro _ w5 ⟨hb2, k5, z2⟩
          have z_k5 := k5.size
          replace hr := hr.keep k5 (fun x hx hm => Nat.ne_of_lt (hn x hx) (List.mem_singleton.1 hm))
          replace hB := hB.trans k5
          refine aZ ?_
          refine aY ?_
          refine aX ?_
          refine oga rfl rfl ?_
          refine aZ ?_
          refine af hfin Tryd.results63 rfl ?_
          refine ⟨(0, bs.drop at_, 20), at_, ?_, rfl, ⟨hb2, hr, hn, by omega, hbl⟩, rfl, hB⟩
          unfold rLen
          try rw [htop]
          try simp only [Nat.reducePow, Nat.reduceMul, Nat.reduceSub, Int.reducePow]
          repeat (first | rw [if_pos (by assumption)] | rw [if_neg (by assumption)] | rw [if_pos (by omega)] | rw [if_neg (by omega)])
          all_goals first | rfl | (refine Prod.ext rfl (Prod.ext rfl ?_); show _ = _; dsimp only; omega)
        · -- no
          refine a8 ?_
          refine aY ?_
          refine aX ?_
          refine ogm rfl rfl ?_
          refine ogm rfl rfl ?_
          refine ah (a7 (vs := [_, _]) rfl (fX _ (bs.drop at_) e _ _ (by exact ⟨bs, at_, bw, by assumption, by assumption, hn, hal, rfl, hbl⟩) (by omega) (by omega))) rfl ?_
          rintro _ w6 ⟨rfl, k6⟩
          have z_k6 := k6.size
          replace hb := hb.lh k6
          replace hr := hr.lh k6
          replace hB := hB.trans k6.weak
          refine ogm rfl rfl ?_
          refine a4 (ak (j := 8) (cJ rfl rfl) (by decide)) rfl ?_
          refine a4 (ak (j := 6) (bV rfl rfl) (by decide)) rfl ?_
          refine a4 (eh (by rw [aK]; rfl) aP rfl (by omega)) rfl ?_
          refine a4 (ak (j := 64) (cz rfl rfl (by decide)) (by decide)) rfl ?_
          refine a4 (ak (j := 63) (bV rfl rfl) (by decide)) rfl ?_
          refine a4 (v := .int .i64 (num ((bs.drop at_).take 1) % 64)) (by have hm : bits .and .i64 (num ((bs.drop at_).take 1)) 63 = num ((bs.drop at_).take 1) % 64 := eB 6 (by decide) (hnb 1 (by decide)).1 (hnb 1 (by decide)).2; rw [← hm]; exact ei rfl rfl) rfl ?_
          refine oga rfl rfl ?_
          refine aZ ?_
          refine aY ?_
          refine aY ?_
          refine aX ?_
          refine ogm rfl rfl ?_
          refine a4 (bF rfl rfl) rfl ?_
          refine ogm rfl rfl ?_
          refine al 56 true rfl (fun c1 hgc1 => ?_)
          refine a5 [(5, _)] (aa rfl rfl rfl hgc1) ⟨au rfl, trivial⟩ (fun hw1 => av rfl) rfl ?_
          refine a5 [(57, _)] (aa rfl rfl rfl hgc1) ⟨ae rfl, trivial⟩ (fun hw2 => bO rfl rfl) rfl ?_
          refine a4 (ax rfl rfl hgc1) rfl ?_
          refine ogm rfl rfl ?_
          refine al 60 false rfl (fun c2 hgc2 => ?_)
          refine a5 [(4, _)] (aa rfl rfl rfl hgc2) ⟨au rfl, trivial⟩ (fun hw3 => av rfl) rfl ?_
          refine a5 [(61, _)] (aa rfl rfl rfl hgc2) ⟨ae rfl, trivial⟩ (fun hw4 => bF rfl rfl) rfl ?_
          refine a5 [(62, _)] (aa rfl rfl rfl hgc2) ⟨ae rfl, trivial⟩ (fun hw5 => av rfl) rfl ?_
          refine cl 63 true rfl (fun c3 hgc3 => ?_)
          refine a5 [(5, _)] (cc rfl rfl rfl hgc3) ⟨au rfl, trivial⟩ (fun hw6 => av rfl) rfl ?_
          refine a5 [(64, _)] (cc rfl rfl rfl hgc3) ⟨ae rfl, trivial⟩ (fun hw7 => bO rfl rfl) rfl ?_
          refine ck (aa rfl rfl rfl hgc2) (ae rfl) rfl hgc3 rfl ?_
          refine a4 (bi rfl rfl hgc2) rfl ?_
          refine aZ ?_
          refine bH rfl (fun hc4 => ?_) (fun hc4 => ?_)
          · -- yes
            have hd1 := hc4
            try (simp only [Bool.and_eq_true, Bool.or_eq_true, decide_eq_true_eq, Bool.and_eq_false_iff, Bool.or_eq_false_iff, decide_eq_false_iff_not, Bool.not_eq_true', Bool.not_eq_false', Bool.not_eq_true, Bool.not_eq_false, ne_eq, Decidable.not_not, decide_true, decide_false, Bool.true_and, Bool.false_and, Bool.or_false, Bool.false_or, not_true_eq_false, false_or, or_false, true_and, and_true, not_false_eq_true, reduceCtorEq] at hd1)
            refine aY ?_
            refine aX ?_
            refine ogm rfl rfl ?_
            refine a4 (ai rfl) rfl ?_
            refine a4 (ay aG rfl bJ (by decide) rfl) rfl ?_
            refine am (bQ bJ rfl rfl rfl hb rfl) ?_
            rintro _ w7 ⟨hb3, k7, z3⟩
            have z_k7 := k7.size
            replace hr := hr.keep k7 (fun x hx hm => Nat.ne_of_lt (hn x hx) (List.mem_singleton.1 hm))
            replace hB := hB.trans k7
            refine aZ ?_
            refine aY ?_
            refine aX ?_
            refine oga rfl rfl ?_
            refine aZ ?_
            refine af hfin Tryd.results63 rfl ?_
            refine ⟨(0, bs.drop at_, 21), at_, ?_, rfl, ⟨hb3, hr, hn, by omega, hbl⟩, rfl, hB⟩
            unfold rLen
            try rw [htop]
            try simp only [Nat.reducePow, Nat.reduceMul, Nat.reduceSub, Int.reducePow]
            repeat (first | rw [if_pos (by assumption)] | rw [if_neg (by assumption)] | rw [if_pos (by omega)] | rw [if_neg (by omega)])
            all_goals first | rfl | (refine Prod.ext rfl (Prod.ext rfl ?_); show _ = _; dsimp only; omega)
          · -- no
            have hd2 := hc4
            try (simp only [Bool.and_eq_true, Bool.or_eq_true, decide_eq_true_eq, Bool.and_eq_false_iff, Bool.or_eq_false_iff, decide_eq_false_iff_not, Bool.not_eq_true', Bool.not_eq_false', Bool.not_eq_true, Bool.not_eq_false, ne_eq, Decidable.not_not, decide_true, decide_false, Bool.true_and, Bool.false_and, Bool.or_false, Bool.false_or, not_true_eq_false, false_or, or_false, true_and, and_true, not_false_eq_true, reduceCtorEq] at hd2)
            refine a8 ?_
            refine aY ?_
            refine aX ?_
            refine ogm rfl rfl ?_
            refine ogm rfl rfl ?_
            refine a4 (ai rfl) rfl ?_
            refine a4 (ay aG rfl bJ (by decide) rfl) rfl ?_
            refine a4 (ac bZ rfl (by assumption) rfl) rfl ?_
            refine ogm rfl rfl ?_
            refine a4 (br rfl rfl (by omega)) rfl ?_
            refine a4 (ai rfl) rfl ?_
            refine a4 (ay aG rfl bJ (by decide) rfl) rfl ?_
            refine am (bQ bJ rfl rfl rfl hb rfl) ?_
            rintro _ w8 ⟨hb4, k8, z4⟩
            have z_k8 := k8.size
            replace hr := hr.keep k8 (fun x hx hm => Nat.ne_of_lt (hn x hx) (List.mem_singleton.1 hm))
            replace hB := hB.trans k8
            refine aZ ?_
            refine aY ?_
            refine aX ?_
            refine ogm rfl rfl ?_
            refine oga rfl rfl ?_
            refine aZ ?_
            refine af hfin Tryd.results63 rfl ?_
            refine ⟨((num ((bs.drop at_).take 1) % 64), (bs.drop at_).drop 1, e), at_ + 1, ?_, rfl, ⟨hb4, hr, hn, by omega, hbl⟩, List.drop_drop, hB⟩
            unfold rLen
            try rw [htop]
            try simp only [Nat.reducePow, Nat.reduceMul, Nat.reduceSub, Int.reducePow]
            repeat (first | rw [if_pos (by assumption)] | rw [if_neg (by assumption)] | rw [if_pos (by omega)] | rw [if_neg (by omega)])
            all_goals first | rfl | (refine Prod.ext rfl (Prod.ext rfl ?_); show _ = _; dsimp only; omega)
      · have htop : top (bs.drop at_) = 1 := by unfold top; omega
        rw [hq]
        refine aX ?_
        refine ogm rfl rfl ?_
        refine a4 (bF rfl rfl) rfl ?_
        refine aZ ?_
        refine co rfl (by decide) ?_
        refine a8 ?_
        refine aY ?_
        refine aX ?_
        refine ogm rfl rfl ?_
        refine a4 (eh (by rw [aK]; rfl) aP rfl (by omega)) rfl ?_
        refine a4 (ak (j := 2) (cz rfl rfl (by decide)) (by decide)) rfl ?_
        refine oga rfl rfl ?_
        refine aZ ?_
        refine aY ?_
        refine aY ?_
        refine aX ?_
        refine ogm rfl rfl ?_
        refine ah (a7 (vs := [_]) rfl (dk _ _ _ _ (by exact ⟨bs, at_, bw, by assumption, by assumption, hn, hal, rfl, hbl⟩))) rfl ?_
        rintro _ w9 ⟨rfl, k9⟩
        have z_k9 := k9.size
        replace hb := hb.lh k9
        replace hr := hr.lh k9
        replace hB := hB.trans k9.weak
        refine ogm rfl rfl ?_
        refine a4 (bO rfl rfl) rfl ?_
        refine aZ ?_
        refine ar rfl (fun hc5 => ?_) (fun hc5 => ?_)
        · -- yes
          refine aY ?_
          refine aX ?_
          refine ogm rfl rfl ?_
          refine a4 (ai rfl) rfl ?_
          refine a4 (ay aG rfl bJ (by decide) rfl) rfl ?_
          refine am (bQ bJ rfl rfl rfl hb rfl) ?_
          rintro _ w10 ⟨hb5, k10, z5⟩
          have z_k10 := k10.size
          replace hr := hr.keep k10 (fun x hx hm => Nat.ne_of_lt (hn x hx) (List.mem_singleton.1 hm))
          replace hB := hB.trans k10
          refine aZ ?_
          refine aY ?_
          refine aX ?_
          refine oga rfl rfl ?_
          refine aZ ?_
          refine af hfin Tryd.results63 rfl ?_
          refine ⟨(0, bs.drop at_, 20), at_, ?_, rfl, ⟨hb5, hr, hn, by omega, hbl⟩, rfl, hB⟩
          unfold rLen
          try rw [htop]
          try simp only [Nat.reducePow, Nat.reduceMul, Nat.reduceSub, Int.reducePow]
          repeat (first | rw [if_pos (by assumption)] | rw [if_neg (by assumption)] | rw [if_pos (by omega)] | rw [if_neg (by omega)])
          all_goals first | rfl | (refine Prod.ext rfl (Prod.ext rfl ?_); show _ = _; dsimp only; omega)
        · -- no
          refine a8 ?_
          refine aY ?_
          refine aX ?_
          refine ogm rfl rfl ?_
          refine ogm rfl rfl ?_
          refine ah (a7 (vs := [_, _]) rfl (fX _ (bs.drop at_) e _ _ (by exact ⟨bs, at_, bw, by assumption, by assumption, hn, hal, rfl, hbl⟩) (by omega) (by omega))) rfl ?_
          rintro _ w11 ⟨rfl, k11⟩
          have z_k11 := k11.size
          replace hb := hb.lh k11
          replace hr := hr.lh k11
          replace hB := hB.trans k11.weak
          refine ogm rfl rfl ?_
          refine a4 (ak (j := 16) (cJ rfl rfl) (by decide)) rfl ?_
          refine a4 (ak (j := 14) (bV rfl rfl) (by decide)) rfl ?_
          refine a4 (eh (by rw [aK]; rfl) aP rfl (by omega)) rfl ?_
          refine a4 (ak (j := 16384) (cz rfl rfl (by decide)) (by decide)) rfl ?_
          refine a4 (ak (j := 16383) (bV rfl rfl) (by decide)) rfl ?_
          refine a4 (v := .int .i64 (num ((bs.drop at_).take 2) % 16384)) (by have hm : bits .and .i64 (num ((bs.drop at_).take 2)) 16383 = num ((bs.drop at_).take 2) % 16384 := eB 14 (by decide) (hnb 2 (by decide)).1 (hnb 2 (by decide)).2; rw [← hm]; exact ei rfl rfl) rfl ?_
          refine oga rfl rfl ?_
          refine aZ ?_
          refine aY ?_
          refine aY ?_
          refine aX ?_
          refine ogm rfl rfl ?_
          refine a4 (bF rfl rfl) rfl ?_
          refine ogm rfl rfl ?_
          refine al 56 true rfl (fun c4 hgc4 => ?_)
          refine a5 [(5, _)] (aa rfl rfl rfl hgc4) ⟨au rfl, trivial⟩ (fun hw8 => av rfl) rfl ?_
          refine a5 [(57, _)] (aa rfl rfl rfl hgc4) ⟨ae rfl, trivial⟩ (fun hw9 => bO rfl rfl) rfl ?_
          refine a4 (ax rfl rfl hgc4) rfl ?_
          refine ogm rfl rfl ?_
          refine al 60 false rfl (fun c5 hgc5 => ?_)
          refine a5 [(4, _)] (aa rfl rfl rfl hgc5) ⟨au rfl, trivial⟩ (fun hw10 => av rfl) rfl ?_
          refine a5 [(61, _)] (aa rfl rfl rfl hgc5) ⟨ae rfl, trivial⟩ (fun hw11 => bF rfl rfl) rfl ?_
          refine a5 [(62, _)] (aa rfl rfl rfl hgc5) ⟨ae rfl, trivial⟩ (fun hw12 => av rfl) rfl ?_
          refine cl 63 true rfl (fun c6 hgc6 => ?_)
          refine a5 [(5, _)] (cc rfl rfl rfl hgc6) ⟨au rfl, trivial⟩ (fun hw13 => av rfl) rfl ?_
          refine a5 [(64, _)] (cc rfl rfl rfl hgc6) ⟨ae rfl, trivial⟩ (fun hw14 => bO rfl rfl) rfl ?_
          refine ck (aa rfl rfl rfl hgc5) (ae rfl) rfl hgc6 rfl ?_
          refine a4 (bi rfl rfl hgc5) rfl ?_
          refine aZ ?_
          refine bH rfl (fun hc6 => ?_) (fun hc6 => ?_)
          · -- yes
            have hd3 := hc6
            try (simp only [Bool.and_eq_true, Bool.or_eq_true, decide_eq_true_eq, Bool.and_eq_false_iff, Bool.or_eq_false_iff, decide_eq_false_iff_not, Bool.not_eq_true', Bool.not_eq_false', Bool.not_eq_true, Bool.not_eq_false, ne_eq, Decidable.not_not, decide_true, decide_false, Bool.true_and, Bool.false_and, Bool.or_false, Bool.false_or, not_true_eq_false, false_or, or_false, true_and, and_true, not_false_eq_true, reduceCtorEq] at hd3)
            refine aY ?_
            refine aX ?_
            refine ogm rfl rfl ?_
            refine a4 (ai rfl) rfl ?_
            refine a4 (ay aG rfl bJ (by decide) rfl) rfl ?_
            refine am (bQ bJ rfl rfl rfl hb rfl) ?_
            rintro _ w12 ⟨hb6, k12, z6⟩
            have z_k12 := k12.size
            replace hr := hr.keep k12 (fun x hx hm => Nat.ne_of_lt (hn x hx) (List.mem_singleton.1 hm))
            replace hB := hB.trans k12
            refine aZ ?_
            refine aY ?_
            refine aX ?_
            refine oga rfl rfl ?_
            refine aZ ?_
            refine af hfin Tryd.results63 rfl ?_
            refine ⟨(0, bs.drop at_, 21), at_, ?_, rfl, ⟨hb6, hr, hn, by omega, hbl⟩, rfl, hB⟩
            unfold rLen
            try rw [htop]
            try simp only [Nat.reducePow, Nat.reduceMul, Nat.reduceSub, Int.reducePow]
            repeat (first | rw [if_pos (by assumption)] | rw [if_neg (by assumption)] | rw [if_pos (by omega)] | rw [if_neg (by omega)])
            all_goals first | rfl | (refine Prod.ext rfl (Prod.ext rfl ?_); show _ = _; dsimp only; omega)
          · -- no
            have hd4 := hc6
            try (simp only [Bool.and_eq_true, Bool.or_eq_true, decide_eq_true_eq, Bool.and_eq_false_iff, Bool.or_eq_false_iff, decide_eq_false_iff_not, Bool.not_eq_true', Bool.not_eq_false', Bool.not_eq_true, Bool.not_eq_false, ne_eq, Decidable.not_not, decide_true, decide_false, Bool.true_and, Bool.false_and, Bool.or_false, Bool.false_or, not_true_eq_false, false_or, or_false, true_and, and_true, not_false_eq_true, reduceCtorEq] at hd4)
            refine a8 ?_
            refine aY ?_
            refine aX ?_
            refine ogm rfl rfl ?_
            refine ogm rfl rfl ?_
            refine a4 (ai rfl) rfl ?_
            refine a4 (ay aG rfl bJ (by decide) rfl) rfl ?_
            refine a4 (ac bZ rfl (by assumption) rfl) rfl ?_
            refine ogm rfl rfl ?_
            refine a4 (br rfl rfl (by omega)) rfl ?_
            refine a4 (ai rfl) rfl ?_
            refine a4 (ay aG rfl bJ (by decide) rfl) rfl ?_
            refine am (bQ bJ rfl rfl rfl hb rfl) ?_
            rintro _ w13 ⟨hb7, k13, z7⟩
            have z_k13 := k13.size
            replace hr := hr.keep k13 (fun x hx hm => Nat.ne_of_lt (hn x hx) (List.mem_singleton.1 hm))
            replace hB := hB.trans k13
            refine aZ ?_
            refine aY ?_
            refine aX ?_
            refine ogm rfl rfl ?_
            refine oga rfl rfl ?_
            refine aZ ?_
            refine af hfin Tryd.results63 rfl ?_
            refine ⟨((num ((bs.drop at_).take 2) % 16384), (bs.drop at_).drop 2, e), at_ + 2, ?_, rfl, ⟨hb7, hr, hn, by omega, hbl⟩, List.drop_drop, hB⟩
            unfold rLen
            try rw [htop]
            try simp only [Nat.reducePow, Nat.reduceMul, Nat.reduceSub, Int.reducePow]
            repeat (first | rw [if_pos (by assumption)] | rw [if_neg (by assumption)] | rw [if_pos (by omega)] | rw [if_neg (by omega)])
            all_goals first | rfl | (refine Prod.ext rfl (Prod.ext rfl ?_); show _ = _; dsimp only; omega)
      · have htop : top (bs.drop at_) = 2 := by unfold top; omega
        rw [hq]
        refine aX ?_
        refine ogm rfl rfl ?_
        refine a4 (bF rfl rfl) rfl ?_
        refine aZ ?_
        refine co rfl (by decide) ?_
        refine a8 ?_
        refine aY ?_
        refine aX ?_
        refine ogm rfl rfl ?_
        refine a4 (eh (by rw [aK]; rfl) aP rfl (by omega)) rfl ?_
        refine a4 (ak (j := 4) (cz rfl rfl (by decide)) (by decide)) rfl ?_
        refine oga rfl rfl ?_
        refine aZ ?_
        refine aY ?_
        refine aY ?_
        refine aX ?_
        refine ogm rfl rfl ?_
        refine ah (a7 (vs := [_]) rfl (dk _ _ _ _ (by exact ⟨bs, at_, bw, by assumption, by assumption, hn, hal, rfl, hbl⟩))) rfl ?_
        rintro _ w14 ⟨rfl, k14⟩
        have z_k14 := k14.size
        replace hb := hb.lh k14
        replace hr := hr.lh k14
        replace hB := hB.trans k14.weak
        refine ogm rfl rfl ?_
        refine a4 (bO rfl rfl) rfl ?_
        refine aZ ?_
        refine ar rfl (fun hc7 => ?_) (fun hc7 => ?_)
        · -- yes
          refine aY ?_
          refine aX ?_
          refine ogm rfl rfl ?_
          refine a4 (ai rfl) rfl ?_
          refine a4 (ay aG rfl bJ (by decide) rfl) rfl ?_
          refine am (bQ bJ rfl rfl rfl hb rfl) ?_
          rintro _ w15 ⟨hb8, k15, z8⟩
          have z_k15 := k15.size
          replace hr := hr.keep k15 (fun x hx hm => Nat.ne_of_lt (hn x hx) (List.mem_singleton.1 hm))
          replace hB := hB.trans k15
          refine aZ ?_
          refine aY ?_
          refine aX ?_
          refine oga rfl rfl ?_
          refine aZ ?_
          refine af hfin Tryd.results63 rfl ?_
          refine ⟨(0, bs.drop at_, 20), at_, ?_, rfl, ⟨hb8, hr, hn, by omega, hbl⟩, rfl, hB⟩
          unfold rLen
          try rw [htop]
          try simp only [Nat.reducePow, Nat.reduceMul, Nat.reduceSub, Int.reducePow]
          repeat (first | rw [if_pos (by assumption)] | rw [if_neg (by assumption)] | rw [if_pos (by omega)] | rw [if_neg (by omega)])
          all_goals first | rfl | (refine Prod.ext rfl (Prod.ext rfl ?_); show _ = _; dsimp only; omega)
        · -- no
          refine a8 ?_
          refine aY ?_
          refine aX ?_
          refine ogm rfl rfl ?_
          refine ogm rfl rfl ?_
          refine ah (a7 (vs := [_, _]) rfl (fX _ (bs.drop at_) e _ _ (by exact ⟨bs, at_, bw, by assumption, by assumption, hn, hal, rfl, hbl⟩) (by omega) (by omega))) rfl ?_
          rintro _ w16 ⟨rfl, k16⟩
          have z_k16 := k16.size
          replace hb := hb.lh k16
          replace hr := hr.lh k16
          replace hB := hB.trans k16.weak
          refine ogm rfl rfl ?_
          refine a4 (ak (j := 32) (cJ rfl rfl) (by decide)) rfl ?_
          refine a4 (ak (j := 30) (bV rfl rfl) (by decide)) rfl ?_
          refine a4 (eh (by rw [aK]; rfl) aP rfl (by omega)) rfl ?_
          refine a4 (ak (j := 1073741824) (cz rfl rfl (by decide)) (by decide)) rfl ?_
          refine a4 (ak (j := 1073741823) (bV rfl rfl) (by decide)) rfl ?_
          refine a4 (v := .int .i64 (num ((bs.drop at_).take 4) % 1073741824)) (by have hm : bits .and .i64 (num ((bs.drop at_).take 4)) 1073741823 = num ((bs.drop at_).take 4) % 1073741824 := eB 30 (by decide) (hnb 4 (by decide)).1 (hnb 4 (by decide)).2; rw [← hm]; exact ei rfl rfl) rfl ?_
          refine oga rfl rfl ?_
          refine aZ ?_
          refine aY ?_
          refine aY ?_
          refine aX ?_
          refine ogm rfl rfl ?_
          refine a4 (bF rfl rfl) rfl ?_
          refine ogm rfl rfl ?_
          refine al 56 true rfl (fun c7 hgc7 => ?_)
          refine a5 [(5, _)] (aa rfl rfl rfl hgc7) ⟨au rfl, trivial⟩ (fun hw15 => av rfl) rfl ?_
          refine a5 [(57, _)] (aa rfl rfl rfl hgc7) ⟨ae rfl, trivial⟩ (fun hw16 => bO rfl rfl) rfl ?_
          refine a4 (ax rfl rfl hgc7) rfl ?_
          refine ogm rfl rfl ?_
          refine al 60 false rfl (fun c8 hgc8 => ?_)
          refine a5 [(4, _)] (aa rfl rfl rfl hgc8) ⟨au rfl, trivial⟩ (fun hw17 => av rfl) rfl ?_
          refine a5 [(61, _)] (aa rfl rfl rfl hgc8) ⟨ae rfl, trivial⟩ (fun hw18 => bF rfl rfl) rfl ?_
          refine a5 [(62, _)] (aa rfl rfl rfl hgc8) ⟨ae rfl, trivial⟩ (fun hw19 => av rfl) rfl ?_
          refine cl 63 true rfl (fun c9 hgc9 => ?_)
          refine a5 [(5, _)] (cc rfl rfl rfl hgc9) ⟨au rfl, trivial⟩ (fun hw20 => av rfl) rfl ?_
          refine a5 [(64, _)] (cc rfl rfl rfl hgc9) ⟨ae rfl, trivial⟩ (fun hw21 => bO rfl rfl) rfl ?_
          refine ck (aa rfl rfl rfl hgc8) (ae rfl) rfl hgc9 rfl ?_
          refine a4 (bi rfl rfl hgc8) rfl ?_
          refine aZ ?_
          refine bH rfl (fun hc8 => ?_) (fun hc8 => ?_)
          · -- yes
            have hd5 := hc8
            try (simp only [Bool.and_eq_true, Bool.or_eq_true, decide_eq_true_eq, Bool.and_eq_false_iff, Bool.or_eq_false_iff, decide_eq_false_iff_not, Bool.not_eq_true', Bool.not_eq_false', Bool.not_eq_true, Bool.not_eq_false, ne_eq, Decidable.not_not, decide_true, decide_false, Bool.true_and, Bool.false_and, Bool.or_false, Bool.false_or, not_true_eq_false, false_or, or_false, true_and, and_true, not_false_eq_true, reduceCtorEq] at hd5)
            refine aY ?_
            refine aX ?_
            refine ogm rfl rfl ?_
            refine a4 (ai rfl) rfl ?_
            refine a4 (ay aG rfl bJ (by decide) rfl) rfl ?_
            refine am (bQ bJ rfl rfl rfl hb rfl) ?_
            rintro _ w17 ⟨hb9, k17, z9⟩
            have z_k17 := k17.size
            replace hr := hr.keep k17 (fun x hx hm => Nat.ne_of_lt (hn x hx) (List.mem_singleton.1 hm))
            replace hB := hB.trans k17
            refine aZ ?_
            refine aY ?_
            refine aX ?_
            refine oga rfl rfl ?_
            refine aZ ?_
            refine af hfin Tryd.results63 rfl ?_
            refine ⟨(0, bs.drop at_, 21), at_, ?_, rfl, ⟨hb9, hr, hn, by omega, hbl⟩, rfl, hB⟩
            unfold rLen
            try rw [htop]
            try simp only [Nat.reducePow, Nat.reduceMul, Nat.reduceSub, Int.reducePow]
            repeat (first | rw [if_pos (by assumption)] | rw [if_neg (by assumption)] | rw [if_pos (by omega)] | rw [if_neg (by omega)])
            all_goals first | rfl | (refine Prod.ext rfl (Prod.ext rfl ?_); show _ = _; dsimp only; omega)
          · -- no
            have hd6 := hc8
            try (simp only [Bool.and_eq_true, Bool.or_eq_true, decide_eq_true_eq, Bool.and_eq_false_iff, Bool.or_eq_false_iff, decide_eq_false_iff_not, Bool.not_eq_true', Bool.not_eq_false', Bool.not_eq_true, Bool.not_eq_false, ne_eq, Decidable.not_not, decide_true, decide_false, Bool.true_and, Bool.false_and, Bool.or_false, Bool.false_or, not_true_eq_false, false_or, or_false, true_and, and_true, not_false_eq_true, reduceCtorEq] at hd6)
            refine a8 ?_
            refine aY ?_
            refine aX ?_
            refine ogm rfl rfl ?_
            refine ogm rfl rfl ?_
            refine a4 (ai rfl) rfl ?_
            refine a4 (ay aG rfl bJ (by decide) rfl) rfl ?_
            refine a4 (ac bZ rfl (by assumption) rfl) rfl ?_
            refine ogm rfl rfl ?_
            refine a4 (br rfl rfl (by omega)) rfl ?_
            refine a4 (ai rfl) rfl ?_
            refine a4 (ay aG rfl bJ (by decide) rfl) rfl ?_
            refine am (bQ bJ rfl rfl rfl hb rfl) ?_
            rintro _ w18 ⟨hb10, k18, z10⟩
            have z_k18 := k18.size
            replace hr := hr.keep k18 (fun x hx hm => Nat.ne_of_lt (hn x hx) (List.mem_singleton.1 hm))
            replace hB := hB.trans k18
            refine aZ ?_
            refine aY ?_
            refine aX ?_
            refine ogm rfl rfl ?_
            refine oga rfl rfl ?_
            refine aZ ?_
            refine af hfin Tryd.results63 rfl ?_
            refine ⟨((num ((bs.drop at_).take 4) % 1073741824), (bs.drop at_).drop 4, e), at_ + 4, ?_, rfl, ⟨hb10, hr, hn, by omega, hbl⟩, List.drop_drop, hB⟩
            unfold rLen
            try rw [htop]
            try simp only [Nat.reducePow, Nat.reduceMul, Nat.reduceSub, Int.reducePow]
            repeat (first | rw [if_pos (by assumption)] | rw [if_neg (by assumption)] | rw [if_pos (by omega)] | rw [if_neg (by omega)])
            all_goals first | rfl | (refine Prod.ext rfl (Prod.ext rfl ?_); show _ = _; dsimp only; omega)
      · have htop : top (bs.drop at_) = 3 := by unfold top; omega
        rw [hq]
        refine aX ?_
        refine ogm rfl rfl ?_
        refine a4 (bF rfl rfl) rfl ?_
        refine aZ ?_
        refine bj rfl (by decide) ?_
        refine aY ?_
        refine aX ?_
        refine ogm rfl rfl ?_
        refine a4 (ai rfl) rfl ?_
        refine a4 (ay aG rfl bJ (by decide) rfl) rfl ?_
        refine am (bQ bJ rfl rfl rfl hb rfl) ?_
        rintro _ w19 ⟨hb11, k19, z11⟩
        have z_k19 := k19.size
        replace hr := hr.keep k19 (fun x hx hm => Nat.ne_of_lt (hn x hx) (List.mem_singleton.1 hm))
        replace hB := hB.trans k19
        refine aZ ?_
        refine aY ?_
        refine aX ?_
        refine oga rfl rfl ?_
        refine aZ ?_
        refine af hfin Tryd.results63 rfl ?_
        refine ⟨(0, bs.drop at_, 21), at_, ?_, rfl, ⟨hb11, hr, hn, by omega, hbl⟩, rfl, hB⟩
        unfold rLen
        try rw [htop]
        try simp only [Nat.reducePow, Nat.reduceMul, Nat.reduceSub, Int.reducePow]
        repeat (first | rw [if_pos (by assumption)] | rw [if_neg (by assumption)] | rw [if_pos (by omega)] | rw [if_neg (by omega)])
        all_goals first | rfl | (refine Prod.ext rfl (Prod.ext rfl ?_); show _ = _; dsimp only; omega)
theorem dW (p : Nat) (rest : List UInt8) (e : Int) (w : World) (h : RdR w p rest e) : Rets Tryd.prog 39 [.pointer (some ⟨p, 0, none⟩)] w (fun v w' => v = .int .i64 (rEnd rest e) ∧ Keep [] w w') := by
 obtain ⟨bs, at_, bw, hb, hr, hn, hal, rfl, hbl⟩ := h
 have hB : Keep [] w w := Keep.refl _ _
 have hcap := hr.vcap
 have hdl : (bs.drop at_).length = bs.length - at_ := List.length_drop
 refine ad Tryd.func39 rfl (by decide) Tryd.ntmps39 rfl (fun fin _ hfin => ?_)
 refine aY (aX (oga rfl rfl (aZ (aY (aY (aX ?_))))))
 refine ogm rfl rfl (a4 (ai rfl) rfl ?_)
 refine a4 (ay aG rfl bJ (by decide) rfl) rfl ?_
 refine a4 (ac bZ rfl ‹_› rfl) rfl ?_
 refine a4 (bF rfl rfl) rfl ?_
 refine ogm rfl rfl (al 8 true rfl (fun c1 hgc1 => ?_))
 refine a5 [(0, _)] (aa rfl rfl rfl hgc1) ⟨au rfl, trivial⟩ (fun hw1 => av rfl) rfl ?_
 refine cQ [(9, _)] (aa rfl rfl rfl hgc1) ⟨ae rfl, trivial⟩ (fun hw2 => a7 (vs := [_]) rfl (dk _ _ _ _ (by exact ⟨bs, at_, bw, by assumption, by assumption, hn, hal, rfl, hbl⟩))) rfl ?_
 rintro w2 k2
 have z_k2 := k2.size
 replace hb := hb.lh k2
 replace hr := hr.lh k2
 replace hB := hB.trans k2
 refine a5 [(10, _)] (aa rfl rfl rfl hgc1) ⟨ae rfl, trivial⟩ (fun hw3 => dr rfl rfl) rfl ?_
 refine a4 (ax rfl rfl hgc1) rfl ?_
 refine aZ (bH rfl (fun hc1 => ?_) (fun hc1 => ?_))
 ·
  have hd1 := hc1
  try (simp only [Bool.and_eq_true, Bool.or_eq_true, decide_eq_true_eq, Bool.and_eq_false_iff, Bool.or_eq_false_iff, decide_eq_false_iff_not, Bool.not_eq_true', Bool.not_eq_false', Bool.not_eq_true, Bool.not_eq_false, ne_eq, Decidable.not_not, decide_true, decide_false, Bool.true_and, Bool.false_and, Bool.or_false, Bool.false_or, not_true_eq_false, false_or, or_false, true_and, and_true, not_false_eq_true, reduceCtorEq] at hd1)
  refine aY (aX (oga rfl rfl (aZ (af hfin Tryd.results39 rfl ?_))))
  refine ⟨?_, hB⟩
  congr 1
  unfold rEnd
  repeat (first | rw [if_pos ‹_›] | rw [if_neg ‹_›] | rw [if_pos (by omega)] | rw [if_neg (by omega)])
  all_goals omega
 ·
  have hd2 := hc1
  try (simp only [Bool.and_eq_true, Bool.or_eq_true, decide_eq_true_eq, Bool.and_eq_false_iff, Bool.or_eq_false_iff, decide_eq_false_iff_not, Bool.not_eq_true', Bool.not_eq_false', Bool.not_eq_true, Bool.not_eq_false, ne_eq, Decidable.not_not, decide_true, decide_false, Bool.true_and, Bool.false_and, Bool.or_false, Bool.false_or, not_true_eq_false, false_or, or_false, true_and, and_true, not_false_eq_true, reduceCtorEq] at hd2)
  refine a8 (aY (aX (ogm rfl rfl (a4 (ai rfl) rfl ?_))))
  refine a4 (ay aG rfl bJ (by decide) rfl) rfl ?_
  refine a4 (ac bZ rfl ‹_› rfl) rfl ?_
  refine oga rfl rfl (aZ (af hfin Tryd.results39 rfl ?_))
  refine ⟨?_, hB⟩
  congr 1
  unfold rEnd
  repeat (first | rw [if_pos ‹_›] | rw [if_neg ‹_›] | rw [if_pos (by omega)] | rw [if_neg (by omega)])
  all_goals omega
theorem g8 (p at_ : Nat) (bs : List UInt8) (bw : Value) (e n : Int) (w : World) (h : RdA w p bs bw at_ e) : Rets Tryd.prog 64 [.pointer (some ⟨p, 0, none⟩), .int .i64 n] w (fun v w' => ∃ r a2, r = rTake (bs.drop at_) e n ∧ OwnB w' w.heap.size v r.1 ∧ RdA w' p bs bw a2 r.2.2 ∧ r.2.1 = bs.drop a2 ∧ Keep [p] w w') := by
  obtain ⟨hb, hr, hn, hal, hbl⟩ := h
  have hB : Keep [p] w w := Keep.refl _ _
  have hcap := hr.vcap
  have hdl : (bs.drop at_).length = bs.length - at_ := List.length_drop
  have hg0 : gb bs (at_ : Int) = (((bs.drop at_).getD 0 0).toNat : Int) := by unfold gb; rw [List.getD_eq_getElem?_getD, List.getD_eq_getElem?_getD, List.getElem?_drop, Int.toNat_natCast, Nat.add_zero]
  have hp0 := hb.lt
  refine ad Tryd.func64 rfl (by decide) Tryd.ntmps64 rfl (fun fin _ hfin => ?_)
  refine aY ?_
  refine aX ?_
  refine oga rfl rfl ?_
  refine aZ ?_
  refine aY ?_
  refine ag ?_
  refine aY ?_
  refine aX ?_
  refine ogm rfl rfl ?_
  refine a4 (ai rfl) rfl ?_
  refine a4 (ay aG rfl bJ (by decide) rfl) rfl ?_
  refine a4 (ac bZ rfl (by assumption) rfl) rfl ?_
  refine a4 (cC rfl rfl) rfl ?_
  refine oga rfl rfl ?_
  refine aZ ?_
  refine ar rfl (fun hc1 => ?_) (fun hc1 => ?_)
  · -- yes
    refine aY ?_
    refine aX ?_
    refine oga rfl rfl ?_
    refine aZ ?_
    refine af hfin Tryd.results64 rfl ?_
    refine ⟨([], bs.drop at_, e), at_, ?_, a9 _ _ _ _, ⟨hb, hr, hn, by omega, hbl⟩, rfl, hB⟩
    unfold rTake
    repeat (first | rw [if_pos (by assumption)] | rw [if_neg (by assumption)] | rw [if_pos (by omega)] | rw [if_neg (by omega)])
    all_goals first | rfl | (refine Prod.ext rfl (Prod.ext rfl ?_); show _ = _; dsimp only; omega)
  · -- no
    refine aY ?_
    refine aX ?_
    refine ogm rfl rfl ?_
    refine a4 (bO rfl rfl) rfl ?_
    refine oga rfl rfl ?_
    refine aZ ?_
    refine ar rfl (fun hc2 => ?_) (fun hc2 => ?_)
    · -- yes
      refine aY ?_
      refine aX ?_
      refine ogm rfl rfl ?_
      refine a4 (ai rfl) rfl ?_
      refine a4 (ay aG rfl bJ (by decide) rfl) rfl ?_
      refine am (bQ bJ rfl rfl rfl hb rfl) ?_
      rintro _ w1 ⟨hb1, k1, z1⟩
      have z_k1 := k1.size
      replace hr := hr.keep k1 (fun x hx hm => Nat.ne_of_lt (hn x hx) (List.mem_singleton.1 hm))
      replace hB := hB.trans k1
      refine aZ ?_
      refine aY ?_
      refine aX ?_
      refine oga rfl rfl ?_
      refine aZ ?_
      refine af hfin Tryd.results64 rfl ?_
      refine ⟨([], bs.drop at_, 1), at_, ?_, a9 _ _ _ _, ⟨hb1, hr, hn, by omega, hbl⟩, rfl, hB⟩
      unfold rTake
      repeat (first | rw [if_pos (by assumption)] | rw [if_neg (by assumption)] | rw [if_pos (by omega)] | rw [if_neg (by omega)])
      all_goals first | rfl | (refine Prod.ext rfl (Prod.ext rfl ?_); show _ = _; dsimp only; omega)
    · -- no
      refine aY ?_
      refine aX ?_
      refine ogm rfl rfl ?_
      refine ogm rfl rfl ?_
      refine ah (a7 (vs := [_]) rfl (dk _ _ _ _ (by exact ⟨bs, at_, bw, by assumption, by assumption, hn, hal, rfl, hbl⟩))) rfl ?_
      rintro _ w2 ⟨rfl, k2⟩
      have z_k2 := k2.size
      replace hb := hb.lh k2
      replace hr := hr.lh k2
      replace hB := hB.trans k2.weak
      refine a4 (dr rfl rfl) rfl ?_
      refine oga rfl rfl ?_
      refine aZ ?_
      refine ar rfl (fun hc3 => ?_) (fun hc3 => ?_)
      · -- yes
        refine aY ?_
        refine aX ?_
        refine ogm rfl rfl ?_
        refine a4 (ai rfl) rfl ?_
        refine a4 (ay aG rfl bJ (by decide) rfl) rfl ?_
        refine am (bQ bJ rfl rfl rfl hb rfl) ?_
        rintro _ w3 ⟨hb2, k3, z2⟩
        have z_k3 := k3.size
        replace hr := hr.keep k3 (fun x hx hm => Nat.ne_of_lt (hn x hx) (List.mem_singleton.1 hm))
        replace hB := hB.trans k3
        refine aZ ?_
        refine aY ?_
        refine aX ?_
        refine oga rfl rfl ?_
        refine aZ ?_
        refine af hfin Tryd.results64 rfl ?_
        refine ⟨([], bs.drop at_, 20), at_, ?_, a9 _ _ _ _, ⟨hb2, hr, hn, by omega, hbl⟩, rfl, hB⟩
        unfold rTake
        repeat (first | rw [if_pos (by assumption)] | rw [if_neg (by assumption)] | rw [if_pos (by omega)] | rw [if_neg (by omega)])
        all_goals first | rfl | (refine Prod.ext rfl (Prod.ext rfl ?_); show _ = _; dsimp only; omega)
      · -- no
        refine a8 ?_
        refine bg ?_
        refine aY ?_
        refine aX ?_
        refine ogm rfl rfl ?_
        refine ogm rfl rfl ?_
        refine a4 (ai rfl) rfl ?_
        refine a4 (ay aG rfl bJ (by decide) rfl) rfl ?_
        refine a4 (ac bZ rfl (by assumption) rfl) rfl ?_
        refine ogm rfl rfl ?_
        refine a4 (br rfl rfl (by omega)) rfl ?_
        refine a4 (ai rfl) rfl ?_
        refine a4 (ay aG rfl bJ (by decide) rfl) rfl ?_
        refine am (bQ bJ rfl rfl rfl hb rfl) ?_
        rintro _ w4 ⟨hb3, k4, z3⟩
        have z_k4 := k4.size
        replace hr := hr.keep k4 (fun x hx hm => Nat.ne_of_lt (hn x hx) (List.mem_singleton.1 hm))
        replace hB := hB.trans k4
        refine aZ ?_
        refine aY ?_
        refine dU 17 mixed [(0, _), (1, _), (4, _), (6, _), (7, _), (8, _), (9, _), (10, _), (5, _), (12, _), (13, _), (11, _), (18, _), (19, _), (20, _), (21, _), (17, _), (25, _), (26, _), (27, _), (28, _), (29, _), (30, _), (31, _), (32, _), (33, _)] (fun jj v W => match jj with | 0 => ∃ g, v = .slice (some ⟨g, 0, none⟩) 0 0 ∧ Bk W g 5 [] ∧ w4.heap.size ≤ g | 1 => v = .pointer (some ⟨p, 0, none⟩) | 2 => v = .pointer (some ⟨p, 0, none⟩) | 3 => v = .pointer (some ⟨p, 0 + 0, none⟩) | 4 => v = bw | 5 => v = .pointer (some ⟨p, 0, none⟩) | 6 => v = .pointer (some ⟨p, 0, none⟩) | 7 => v = .pointer (some ⟨p, 0 + 1, none⟩) | 8 => v = .int .i64 ((at_ : Int) + n) | 9 => v = .int .i64 n | 10 => v = .int .i64 (((at_ : Int) + n) - n) | 11 => v = .pointer (some ⟨p, 0, none⟩) | 12 => v = .pointer (some ⟨p, 0, none⟩) | 13 => v = .pointer (some ⟨p, 0 + 1, none⟩) | 14 => v = .int .i64 ((at_ : Int) + n) | 15 => RdB W v ((bs.drop at_).take n.toNat) | 16 => OwnB W w4.heap.size v (((bs.drop at_).take n.toNat)) | _ => True) ⟨rfl, rfl, rfl, rfl, rfl, rfl, rfl, rfl, rfl, rfl, rfl, rfl, rfl, rfl, rfl, rfl, rfl, rfl, rfl, rfl, rfl, rfl, rfl, rfl, rfl, rfl, trivial⟩ (by decide) (by decide) rfl ?_ ?_ ?_
        · intro jj v W W' h k
          match jj, h with
          | 0, h => exact (by obtain ⟨g, h1, h2, h3⟩ := h; exact ⟨g, h1, h2.lh k, h3⟩)
          | 1, h => exact h
          | 2, h => exact h
          | 3, h => exact h
          | 4, h => exact h
          | 5, h => exact h
          | 6, h => exact h
          | 7, h => exact h
          | 8, h => exact h
          | 9, h => exact h
          | 10, h => exact h
          | 11, h => exact h
          | 12, h => exact h
          | 13, h => exact h
          | 14, h => exact h
          | 15, h => exact h.lh k
          | 16, h => exact h.lh k
          | _ + 17, _ => trivial
        · refine ⟨?_, ?_, ?_, ?_, ?_, ?_, ?_, ?_, ?_, ?_, ?_, ?_, ?_, ?_, ?_, ?_, ?_, trivial⟩
          · refine ⟨[], rfl, ?_⟩; rintro W1 hk vs hd
            replace hr := hr.lh hk
            replace hb3 := hb3.lh hk
            replace hB := hB.trans hk.weak
            refine ⟨true, fun a _ => rfl, fun _ => ?_, fun h => by cases h⟩
            refine a6 [] trivial ?_
            refine (d_bs0 aA bu rfl).mono ?_
            rintro v W2 ⟨g, h1, h2, h3, k1⟩; exact ⟨k1, g, h1, h3, by have := hk.size; omega⟩
          · refine ⟨[], rfl, ?_⟩; rintro W1 hk vs hd
            replace hr := hr.lh hk
            replace hb3 := hb3.lh hk
            replace hB := hB.trans hk.weak
            refine ⟨true, fun a _ => rfl, fun _ => ?_, fun h => by cases h⟩
            refine a6 [(0, _)] ⟨rfl, trivial⟩ ?_
            refine (Gives.does (av rfl)).mono ?_
            rintro v W2 ⟨rfl, rfl⟩
            exact ⟨Keep.refl _ _, rfl⟩
          · refine ⟨[1], rfl, ?_⟩; rintro W1 hk vs hd
            have d1 : (vs 1) = .pointer (some ⟨p, 0, none⟩) := hd 1 (by decide)
            replace hr := hr.lh hk
            replace hb3 := hb3.lh hk
            replace hB := hB.trans hk.weak
            refine ⟨true, fun a _ => rfl, fun _ => ?_, fun h => by cases h⟩
            refine a6 [(35, .pointer (some ⟨p, 0, none⟩))] ⟨congrArg some d1, trivial⟩ ?_
            refine (Gives.does (ai rfl)).mono ?_
            rintro v W2 ⟨rfl, rfl⟩
            exact ⟨Keep.refl _ _, rfl⟩
          · refine ⟨[2], rfl, ?_⟩; rintro W1 hk vs hd
            have d2 : (vs 2) = .pointer (some ⟨p, 0, none⟩) := hd 2 (by decide)
            replace hr := hr.lh hk
            replace hb3 := hb3.lh hk
            replace hB := hB.trans hk.weak
            refine ⟨true, fun a _ => rfl, fun _ => ?_, fun h => by cases h⟩
            refine a6 [(36, .pointer (some ⟨p, 0, none⟩))] ⟨congrArg some d2, trivial⟩ ?_
            refine (Gives.does (ay aG rfl az (by decide) rfl)).mono ?_
            rintro v W2 ⟨rfl, rfl⟩
            exact ⟨Keep.refl _ _, rfl⟩
          · refine ⟨[3], rfl, ?_⟩; rintro W1 hk vs hd
            have d3 : (vs 3) = .pointer (some ⟨p, 0 + 0, none⟩) := hd 3 (by decide)
            replace hr := hr.lh hk
            replace hb3 := hb3.lh hk
            replace hB := hB.trans hk.weak
            refine ⟨true, fun a _ => rfl, fun _ => ?_, fun h => by cases h⟩
            refine a6 [(37, .pointer (some ⟨p, 0 + 0, none⟩))] ⟨congrArg some d3, trivial⟩ ?_
            refine (Gives.does (ac ba rfl (by assumption) rfl)).mono ?_
            rintro v W2 ⟨rfl, rfl⟩
            exact ⟨Keep.refl _ _, rfl⟩
          · refine ⟨[], rfl, ?_⟩; rintro W1 hk vs hd
            replace hr := hr.lh hk
            replace hb3 := hb3.lh hk
            replace hB := hB.trans hk.weak
            refine ⟨true, fun a _ => rfl, fun _ => ?_, fun h => by cases h⟩
            refine a6 [(0, _)] ⟨rfl, trivial⟩ ?_
            refine (Gives.does (av rfl)).mono ?_
            rintro v W2 ⟨rfl, rfl⟩
            exact ⟨Keep.refl _ _, rfl⟩
          · refine ⟨[5], rfl, ?_⟩; rintro W1 hk vs hd
            have d5 : (vs 5) = .pointer (some ⟨p, 0, none⟩) := hd 5 (by decide)
            replace hr := hr.lh hk
            replace hb3 := hb3.lh hk
            replace hB := hB.trans hk.weak
            refine ⟨true, fun a _ => rfl, fun _ => ?_, fun h => by cases h⟩
            refine a6 [(39, .pointer (some ⟨p, 0, none⟩))] ⟨congrArg some d5, trivial⟩ ?_
            refine (Gives.does (ai rfl)).mono ?_
            rintro v W2 ⟨rfl, rfl⟩
            exact ⟨Keep.refl _ _, rfl⟩
          · refine ⟨[6], rfl, ?_⟩; rintro W1 hk vs hd
            have d6 : (vs 6) = .pointer (some ⟨p, 0, none⟩) := hd 6 (by decide)
            replace hr := hr.lh hk
            replace hb3 := hb3.lh hk
            replace hB := hB.trans hk.weak
            refine ⟨true, fun a _ => rfl, fun _ => ?_, fun h => by cases h⟩
            refine a6 [(40, .pointer (some ⟨p, 0, none⟩))] ⟨congrArg some d6, trivial⟩ ?_
            refine (Gives.does (ay aG rfl bJ (by decide) rfl)).mono ?_
            rintro v W2 ⟨rfl, rfl⟩
            exact ⟨Keep.refl _ _, rfl⟩
          · refine ⟨[7], rfl, ?_⟩; rintro W1 hk vs hd
            have d7 : (vs 7) = .pointer (some ⟨p, 0 + 1, none⟩) := hd 7 (by decide)
            replace hr := hr.lh hk
            replace hb3 := hb3.lh hk
            replace hB := hB.trans hk.weak
            refine ⟨true, fun a _ => rfl, fun _ => ?_, fun h => by cases h⟩
            refine a6 [(41, .pointer (some ⟨p, 0 + 1, none⟩))] ⟨congrArg some d7, trivial⟩ ?_
            refine (Gives.does (ac bZ rfl (by assumption) rfl)).mono ?_
            rintro v W2 ⟨rfl, rfl⟩
            exact ⟨Keep.refl _ _, rfl⟩
          · refine ⟨[], rfl, ?_⟩; rintro W1 hk vs hd
            replace hr := hr.lh hk
            replace hb3 := hb3.lh hk
            replace hB := hB.trans hk.weak
            refine ⟨true, fun a _ => rfl, fun _ => ?_, fun h => by cases h⟩
            refine a6 [(1, _)] ⟨rfl, trivial⟩ ?_
            refine (Gives.does (av rfl)).mono ?_
            rintro v W2 ⟨rfl, rfl⟩
            exact ⟨Keep.refl _ _, rfl⟩
          · refine ⟨[8, 9], rfl, ?_⟩; rintro W1 hk vs hd
            have d8 : (vs 8) = .int .i64 ((at_ : Int) + n) := hd 8 (by decide)
            have d9 : (vs 9) = .int .i64 n := hd 9 (by decide)
            replace hr := hr.lh hk
            replace hb3 := hb3.lh hk
            replace hB := hB.trans hk.weak
            refine ⟨true, fun a _ => rfl, fun _ => ?_, fun h => by cases h⟩
            refine a6 [(42, .int .i64 ((at_ : Int) + n)), (43, .int .i64 n)] ⟨congrArg some d8, congrArg some d9, trivial⟩ ?_
            refine (Gives.does (cy rfl rfl (by omega))).mono ?_
            rintro v W2 ⟨rfl, rfl⟩
            exact ⟨Keep.refl _ _, rfl⟩
          · refine ⟨[], rfl, ?_⟩; rintro W1 hk vs hd
            replace hr := hr.lh hk
            replace hb3 := hb3.lh hk
            replace hB := hB.trans hk.weak
            refine ⟨true, fun a _ => rfl, fun _ => ?_, fun h => by cases h⟩
            refine a6 [(0, _)] ⟨rfl, trivial⟩ ?_
            refine (Gives.does (av rfl)).mono ?_
            rintro v W2 ⟨rfl, rfl⟩
            exact ⟨Keep.refl _ _, rfl⟩
          · refine ⟨[11], rfl, ?_⟩; rintro W1 hk vs hd
            have d11 : (vs 11) = .pointer (some ⟨p, 0, none⟩) := hd 11 (by decide)
            replace hr := hr.lh hk
            replace hb3 := hb3.lh hk
            replace hB := hB.trans hk.weak
            refine ⟨true, fun a _ => rfl, fun _ => ?_, fun h => by cases h⟩
            refine a6 [(45, .pointer (some ⟨p, 0, none⟩))] ⟨congrArg some d11, trivial⟩ ?_
            refine (Gives.does (ai rfl)).mono ?_
            rintro v W2 ⟨rfl, rfl⟩
            exact ⟨Keep.refl _ _, rfl⟩
          · refine ⟨[12], rfl, ?_⟩; rintro W1 hk vs hd
            have d12 : (vs 12) = .pointer (some ⟨p, 0, none⟩) := hd 12 (by decide)
            replace hr := hr.lh hk
            replace hb3 := hb3.lh hk
            replace hB := hB.trans hk.weak
            refine ⟨true, fun a _ => rfl, fun _ => ?_, fun h => by cases h⟩
            refine a6 [(46, .pointer (some ⟨p, 0, none⟩))] ⟨congrArg some d12, trivial⟩ ?_
            refine (Gives.does (ay aG rfl bJ (by decide) rfl)).mono ?_
            rintro v W2 ⟨rfl, rfl⟩
            exact ⟨Keep.refl _ _, rfl⟩
          · refine ⟨[13], rfl, ?_⟩; rintro W1 hk vs hd
            have d13 : (vs 13) = .pointer (some ⟨p, 0 + 1, none⟩) := hd 13 (by decide)
            replace hr := hr.lh hk
            replace hb3 := hb3.lh hk
            replace hB := hB.trans hk.weak
            refine ⟨true, fun a _ => rfl, fun _ => ?_, fun h => by cases h⟩
            refine a6 [(47, .pointer (some ⟨p, 0 + 1, none⟩))] ⟨congrArg some d13, trivial⟩ ?_
            refine (Gives.does (ac bZ rfl (by assumption) rfl)).mono ?_
            rintro v W2 ⟨rfl, rfl⟩
            exact ⟨Keep.refl _ _, rfl⟩
          · refine ⟨[4, 10, 14], rfl, ?_⟩; rintro W1 hk vs hd
            have d4 : (vs 4) = bw := hd 4 (by decide)
            have d10 : (vs 10) = .int .i64 (((at_ : Int) + n) - n) := hd 10 (by decide)
            have d14 : (vs 14) = .int .i64 ((at_ : Int) + n) := hd 14 (by decide)
            replace hr := hr.lh hk
            replace hb3 := hb3.lh hk
            replace hB := hB.trans hk.weak
            refine ⟨true, fun a _ => rfl, fun _ => ?_, fun h => by cases h⟩
            refine a6 [(38, bw), (44, .int .i64 (((at_ : Int) + n) - n)), (48, .int .i64 ((at_ : Int) + n))] ⟨congrArg some d4, congrArg some d10, congrArg some d14, trivial⟩ ?_
            have hct := (show RdB W1 bw bs by assumption).cutB (l := at_) (hi := at_ + n.toNat) (by omega) (by omega)
            rw [show at_ + n.toNat - at_ = n.toNat from by omega] at hct
            refine (Gives.does (ek aA bu rfl (show RdB W1 bw bs by assumption) (.inr ⟨_, _, rfl, rfl⟩) (.inr ⟨_, _, rfl, rfl⟩) ⟨by omega, by omega, by omega⟩)).mono ?_
            rintro v W2 ⟨rfl, rfl⟩
            refine ⟨Keep.refl _ _, ?_⟩
            rw [show ((at_ : Int) + n - n).toNat = at_ from by omega, show ((at_ : Int) + n).toNat = at_ + n.toNat from by omega]; exact hct
          · refine ⟨[0, 15], rfl, ?_⟩; rintro W1 hk vs hd
            have d0 : ∃ g, (vs 0) = .slice (some ⟨g, 0, none⟩) 0 0 ∧ Bk W1 g 5 [] ∧ w4.heap.size ≤ g := hd 0 (by decide)
            have d15 : RdB W1 (vs 15) ((bs.drop at_).take n.toNat) := hd 15 (by decide)
            replace hr := hr.lh hk
            replace hb3 := hb3.lh hk
            replace hB := hB.trans hk.weak
            refine ⟨true, fun a _ => rfl, fun _ => ?_, fun h => by cases h⟩
            refine a6 [(34, vs 0), (49, vs 15)] ⟨rfl, rfl, trivial⟩ ?_
            obtain ⟨g, h1, h2, h3⟩ := d0
            rw [h1]
            refine (lY aA bu rfl rfl rfl h2 (Nat.le_trans h3 (Nat.le_refl _)) rfl d15 (by rw [List.length_take]; omega)).mono ?_
            rintro v W2 ⟨o1, k1⟩; exact ⟨k1, o1⟩
        rintro w5 k5 vs hv
        have z_k5 := k5.size
        replace hr := hr.lh k5
        replace hb3 := hb3.lh k5
        replace hB := hB.trans k5.weak
        have e50 : OwnB w5 w4.heap.size (vs 16) (((bs.drop at_).take n.toNat)) := hv 16 (by decide) rfl
        refine dR [(50, vs 16), (0, _), (1, _), (4, _), (6, _), (7, _), (8, _), (9, _), (10, _), (5, _), (12, _), (13, _), (11, _), (18, _), (19, _), (20, _), (21, _), (17, _), (25, _), (26, _), (27, _), (28, _), (29, _), (30, _), (31, _), (32, _), (33, _)] ⟨rfl, rfl, rfl, rfl, rfl, rfl, rfl, rfl, rfl, rfl, rfl, rfl, rfl, rfl, rfl, rfl, rfl, rfl, rfl, rfl, rfl, rfl, rfl, rfl, rfl, rfl, rfl, trivial⟩ ?_
        have o1 := e50
        refine oga rfl rfl ?_
        refine aZ ?_
        refine af hfin Tryd.results64 rfl ?_
        rw [show ((at_ : Int) + n) = ((at_ + n.toNat : Nat) : Int) from by omega] at hb3
        refine ⟨((bs.drop at_).take n.toNat, (bs.drop at_).drop n.toNat, e), at_ + n.toNat, ?_, o1.lo (by have := hp0; omega), ⟨hb3, hr, hn, by omega, hbl⟩, List.drop_drop, hB⟩
        unfold rTake
        repeat (first | rw [if_pos (by assumption)] | rw [if_neg (by assumption)] | rw [if_pos (by omega)] | rw [if_neg (by omega)])
        all_goals first | rfl | (refine Prod.ext rfl (Prod.ext rfl ?_); show _ = _; dsimp only; omega)
theorem ip {rest : List UInt8} {e e2 : Int} {r1 : Int × List UInt8 × Int} {r2 : List UInt8 × List UInt8 × Int} (h1 : r1 = rLen rest e) (he : r1.2.2 = 0 ∧ 65536 < r1.1 ∧ e2 = 21 ∨ ¬ (r1.2.2 = 0 ∧ 65536 < r1.1) ∧ e2 = r1.2.2) (h2 : r2 = rTake r1.2.1 e2 r1.1) :
   (r2.2.2 ≠ 0 → rVec rest e = ([], rest, r2.2.2)) ∧ (r2.2.2 = 0 → rVec rest e = r2) := by
 by_cases h0 : e = 0
 · subst h0
   rcases he with ⟨a, b, rfl⟩ | ⟨a, rfl⟩
   · exact ⟨fun h => (iq h1 h2 ⟨a, b⟩ h).symm, fun h => (hQ h1 h2 ⟨a, b⟩ h).symm⟩
   · have a' : ¬ r1.2.2 = 0 ∨ ¬ 65536 < r1.1 := by omega
     exact ⟨fun h => (ir h1 h2 a' h).symm, fun h => (jh h1 h2 a' h).symm⟩
 · have e1 : rLen rest e = (0, rest, e) := by unfold rLen; rw [if_pos h0]
   rw [e1] at h1; subst h1
   rcases he with ⟨a, _⟩ | ⟨_, h3⟩
   · exact absurd a h0
   · rw [show e2 = e from h3] at h2
     rw [eR _ _ _ h0] at h2; subst h2
     have e2 : rVec rest e = ([], rest, e) := by unfold rVec; rw [if_pos h0]
     exact ⟨fun _ => e2, fun h => absurd h h0⟩
theorem kL (p at_ : Nat) (bs : List UInt8) (bw : Value) (e : Int) (w : World) (h : RdA w p bs bw at_ e) : Rets Tryd.prog 38 [.pointer (some ⟨p, 0, none⟩)] w (fun v w' => ∃ r a2, r = rVec (bs.drop at_) e ∧ OwnB w' w.heap.size v r.1 ∧ RdA w' p bs bw a2 r.2.2 ∧ r.2.1 = bs.drop a2 ∧ Keep [p] w w') := by
 obtain ⟨hb, hr, hn, hal, hbl⟩ := h
 have hB : Keep [p] w w := Keep.refl _ _
 have hcap := hr.vcap
 have hdl : (bs.drop at_).length = bs.length - at_ := List.length_drop
 have hg0 : gb bs (at_ : Int) = (((bs.drop at_).getD 0 0).toNat : Int) := by unfold gb; rw [List.getD_eq_getElem?_getD, List.getD_eq_getElem?_getD, List.getElem?_drop, Int.toNat_natCast, Nat.add_zero]
 have hp0 := hb.lt
 refine ad Tryd.func38 rfl (by decide) Tryd.ntmps38 rfl (fun fin _ hfin => ?_)
 refine aY (aX (oga rfl rfl (aZ (aY (aX (ogm rfl rfl ?_))))))
 refine a4 (ai rfl) rfl ?_
 refine a4 (ay aG rfl bJ (by decide) rfl) rfl ?_
 refine a4 (ac bZ rfl ‹_› rfl) rfl ?_
 refine oga rfl rfl (aZ (aY (aX (ogm rfl rfl (ah (a7 (vs := [_]) rfl (kM _ at_ _ _ e _ ⟨hb, hr, hn, hal, hbl⟩)) rfl ?_)))))
 rintro _ w1 ⟨r1, a1, hr1, rfl, R1, hq1, k1⟩
 replace hB := hB.trans k1
 obtain ⟨hb, hr, _, hala1, _⟩ := R1
 refine oga rfl rfl (aZ (aY (aY (aX (ogm rfl rfl (a4 (ai rfl) rfl ?_))))))
 refine a4 (ay aG rfl bJ (by decide) rfl) rfl ?_
 refine a4 (ac bZ rfl ‹_› rfl) rfl ?_
 refine a4 (bF rfl rfl) rfl ?_
 refine ogm rfl rfl (al 17 true rfl (fun c1 hgc1 => ?_))
 refine a5 [(4, _)] (aa rfl rfl rfl hgc1) ⟨au rfl, trivial⟩ (fun hw1 => av rfl) rfl ?_
 refine a5 [(18, _)] (aa rfl rfl rfl hgc1) ⟨ae rfl, trivial⟩ (fun hw2 => dr rfl rfl) rfl ?_
 refine a4 (ax rfl rfl hgc1) rfl ?_
 refine aZ (bH rfl (fun hc1 => ?_) (fun hc1 => ?_))
 ·
  have hd1 := hc1
  try (simp only [Bool.and_eq_true, Bool.or_eq_true, decide_eq_true_eq, Bool.and_eq_false_iff, Bool.or_eq_false_iff, decide_eq_false_iff_not, Bool.not_eq_true', Bool.not_eq_false', Bool.not_eq_true, Bool.not_eq_false, ne_eq, Decidable.not_not, decide_true, decide_false, Bool.true_and, Bool.false_and, Bool.or_false, Bool.false_or, not_true_eq_false, false_or, or_false, true_and, and_true, not_false_eq_true, reduceCtorEq] at hd1)
  refine aX (ogm rfl rfl (a4 (ai rfl) rfl ?_))
  refine a4 (ay aG rfl bJ (by decide) rfl) rfl ?_
  refine am (bQ bJ rfl rfl rfl hb rfl) ?_
  rintro _ w2 ⟨hb1, k2, z1⟩
  have z_k2 := k2.size
  replace hr := hr.keep k2 (fun x hx hm => Nat.ne_of_lt (hn x hx) (List.mem_singleton.1 hm))
  replace hB := hB.trans k2
  refine aZ (aY (aX (ogm rfl rfl (ogm rfl rfl ?_))))
  have hs1 := hB.size
  refine ah (a7 (vs := [_, _]) rfl (g8 _ a1 _ _ (21) r1.1 _ ⟨hb1, hr, hn, hala1, hbl⟩)) rfl ?_
  rintro v1 w3 ⟨r2, a2, hr2, o1, R2, hq2, k3⟩
  replace hB := hB.trans k3
  obtain ⟨hb, hr, _, hala2, _⟩ := R2
  have u_o1 := o1.blk
  rw [← hq1] at hr2
  have hgen := ip hr1 (e2 := 21) (by first | exact Or.inl ⟨hd1.1, hd1.2, rfl⟩ | (refine Or.inr ⟨?_, rfl⟩; omega)) hr2
  refine oga rfl rfl (aZ (aY (aY (aX (ogm rfl rfl (a4 (ai rfl) rfl ?_))))))
  refine a4 (ay aG rfl bJ (by decide) rfl) rfl ?_
  refine a4 (ac bZ rfl ‹_› rfl) rfl ?_
  refine a4 (cC rfl rfl) rfl ?_
  refine aZ (ar rfl (fun hc2 => ?_) (fun hc2 => ?_))
  ·
   refine aY (aX (ogm rfl rfl (ogm rfl rfl (a4 (ai rfl) rfl ?_))))
   refine a4 (ay aG rfl bJ (by decide) rfl) rfl ?_
   refine am (bQ bJ rfl rfl rfl hb rfl) ?_
   rintro _ w4 ⟨hb2, k4, z2⟩
   have z_k4 := k4.size
   replace hr := hr.keep k4 (fun x hx hm => Nat.ne_of_lt (hn x hx) (List.mem_singleton.1 hm))
   replace o1 := o1.keep k4 (fun x hx hm => by have h1 := u_o1 x hx; have h2 := List.mem_singleton.1 hm; omega)
   replace hB := hB.trans k4
   refine aZ (aY (aX (oga rfl rfl (aZ (af hfin Tryd.results38 rfl ?_)))))
   exact ⟨([], bs.drop at_, r2.2.2), at_, (hgen.1 ‹_›).symm, a9 _ _ _ _, ⟨hb2, hr, hn, hal, hbl⟩, rfl, hB⟩
  ·
   refine a8 (aY (aX (ogm rfl rfl (oga rfl rfl (aZ (af hfin Tryd.results38 rfl ?_))))))
   exact ⟨r2, a2, (hgen.2 (by omega)).symm, o1.lo hs1, ⟨hb, hr, hn, hala2, hbl⟩, hq2, hB⟩
 ·
  have hd2 := hc1
  try (simp only [Bool.and_eq_true, Bool.or_eq_true, decide_eq_true_eq, Bool.and_eq_false_iff, Bool.or_eq_false_iff, decide_eq_false_iff_not, Bool.not_eq_true', Bool.not_eq_false', Bool.not_eq_true, Bool.not_eq_false, ne_eq, Decidable.not_not, decide_true, decide_false, Bool.true_and, Bool.false_and, Bool.or_false, Bool.false_or, not_true_eq_false, false_or, or_false, true_and, and_true, not_false_eq_true, reduceCtorEq] at hd2)
  refine a8 (aY (aX (ogm rfl rfl (ogm rfl rfl ?_))))
  have hs1 := hB.size
  refine ah (a7 (vs := [_, _]) rfl (g8 _ a1 _ _ (r1.2.2) r1.1 _ ⟨hb, hr, hn, hala1, hbl⟩)) rfl ?_
  rintro v2 w5 ⟨r2, a2, hr2, o2, R3, hq2, k5⟩
  replace hB := hB.trans k5
  obtain ⟨hb, hr, _, hala2, _⟩ := R3
  have u_o2 := o2.blk
  rw [← hq1] at hr2
  have hgen := ip hr1 (e2 := r1.2.2) (by first | exact Or.inl ⟨hd1.1, hd1.2, rfl⟩ | (refine Or.inr ⟨?_, rfl⟩; omega)) hr2
  refine oga rfl rfl (aZ (aY (aY (aX (ogm rfl rfl (a4 (ai rfl) rfl ?_))))))
  refine a4 (ay aG rfl bJ (by decide) rfl) rfl ?_
  refine a4 (ac bZ rfl ‹_› rfl) rfl ?_
  refine a4 (cC rfl rfl) rfl ?_
  refine aZ (ar rfl (fun hc3 => ?_) (fun hc3 => ?_))
  ·
   refine aY (aX (ogm rfl rfl (ogm rfl rfl (a4 (ai rfl) rfl ?_))))
   refine a4 (ay aG rfl bJ (by decide) rfl) rfl ?_
   refine am (bQ bJ rfl rfl rfl hb rfl) ?_
   rintro _ w6 ⟨hb3, k6, z3⟩
   have z_k6 := k6.size
   replace hr := hr.keep k6 (fun x hx hm => Nat.ne_of_lt (hn x hx) (List.mem_singleton.1 hm))
   replace o2 := o2.keep k6 (fun x hx hm => by have h1 := u_o2 x hx; have h2 := List.mem_singleton.1 hm; omega)
   replace hB := hB.trans k6
   refine aZ (aY (aX (oga rfl rfl (aZ (af hfin Tryd.results38 rfl ?_)))))
   exact ⟨([], bs.drop at_, r2.2.2), at_, (hgen.1 ‹_›).symm, a9 _ _ _ _, ⟨hb3, hr, hn, hal, hbl⟩, rfl, hB⟩
  ·
   refine a8 (aY (aX (ogm rfl rfl (oga rfl rfl (aZ (af hfin Tryd.results38 rfl ?_))))))
   exact ⟨r2, a2, (hgen.2 (by omega)).symm, o2.lo hs1, ⟨hb, hr, hn, hala2, hbl⟩, hq2, hB⟩
theorem bo (p : Nat) (rest : List UInt8) (e : Int) (w : World) (h : RdR w p rest e) : Rets Tryd.prog 38 [.pointer (some ⟨p, 0, none⟩)] w (fun v w' => ∃ r, r = rVec rest e ∧ OwnB w' w.heap.size v r.1 ∧ RdR w' p r.2.1 r.2.2 ∧ Keep [p] w w') := by
  obtain ⟨bs, bw, a, rfl, hA⟩ := h.rdA
  refine (kL p a bs bw e w hA).mono fun v w' ⟨r, a2, h1, h2, h3, h4, h5⟩ => ⟨r, h1, h2, ?_, h5⟩
  rw [h4]; exact h3.rdR
theorem gS {x : Fm} : cOk x = true ↔ ((x.gs.length : Int) ≤ 255 ∧ 0 ≤ x.ep ∧ x.ep < 4294967296 ∧ (x.ms.length : Int) ≤ 255 ∧ 1 ≤ x.kd ∧ x.kd ≤ 3 ∧ (x.bs.length : Int) ≤ 40000) ∧ (x.fr = 1 ∧ 0 ≤ x.lf ∧ x.lf < 64 ∨ x.fr = 4 ∧ x.lf = 0 ∧ x.kd = 3) := by
 unfold cOk rightB comB; simp only [Bool.and_eq_true, Bool.or_eq_true, decide_eq_true_eq]; omega
theorem jb {x : Fm} : wOk x = true ↔ (x.wi = 1 ∧ x.kd ≠ 1 ∨ x.wi = 2 ∧ x.fr = 1) := by
 unfold wOk; simp only [Bool.and_eq_true, Bool.or_eq_true, decide_eq_true_eq]
theorem iO {x : Fm} : sOk x = true ↔ cOk x = true ∧ wOk x = true ∧ (x.ss.length : Int) = 64 ∧ (x.cs.length : Int) = if x.kd = 3 then 32 else 0 := by
 unfold sOk; simp only [Bool.and_eq_true, decide_eq_true_eq, and_assoc]
theorem eN {a b : Bool} (h : a = true ↔ b = true) : a = b := by cases a <;> cases b <;> simp_all
theorem gB (g m b : Value) (x : Fm) (w : World) (hg : RdB w g x.gs) (hm : RdB w m x.ms) (hb : RdB w b x.bs) : Rets Tryd.prog 44 [.agg [g, .int .i64 x.ep, .int .i64 x.fr, .int .i64 x.lf, m, .int .i64 x.kd, b].toArray] w (fun v w' => v = .bool (cOk x) ∧ Keep [] w w') := by
 have hB : Keep [] w w := Keep.refl _ _
 refine ad Tryd.func44 rfl (by decide) Tryd.ntmps44 rfl (fun fin _ hfin => ?_)
 refine aY (aX (ah (bz (cs := [g, .int .i64 x.ep, .int .i64 x.fr, .int .i64 x.lf, m, .int .i64 x.kd, b]) rfl rfl) rfl ?_))
 rintro _ w1 ⟨b1, rfl, eb1, hb1, k1, z1⟩
 have ge_b1 : w.heap.size ≤ b1 := by have := hB.size; omega
 replace hB := hB.trans k1
 clear eb1 z1
 refine oga rfl rfl (aZ (aY (aY (aX (a4 (aj 0 aB rfl az (by decide) rfl rfl) rfl ?_)))))
 refine a4 (ac ba rfl hb1 rfl) rfl ?_
 refine a4 (bI aA rfl (by first | assumption | exact Own.rd ‹_› | exact Rd.lh ‹_› hB | exact Own.rd (Own.lh ‹_› hB))) rfl ?_
 refine a4 (dr rfl rfl) rfl ?_
 refine ogm rfl rfl (al 7 false rfl (fun c1 hgc1 => ?_))
 refine a5 [(1, _)] (aa rfl rfl rfl hgc1) ⟨au rfl, trivial⟩ (fun hw1 => aj 1 aB rfl bJ (by decide) rfl rfl) rfl ?_
 refine a5 [(8, _)] (aa rfl rfl rfl hgc1) ⟨ae rfl, trivial⟩ (fun hw2 => ac bZ rfl hb1 rfl) rfl ?_
 refine a5 [(9, _)] (aa rfl rfl rfl hgc1) ⟨ae rfl, trivial⟩ (fun hw3 => bO rfl rfl) rfl ?_
 refine a4 (bi rfl rfl hgc1) rfl ?_
 refine ogm rfl rfl (al 12 false rfl (fun c2 hgc2 => ?_))
 refine a5 [(1, _)] (aa rfl rfl rfl hgc2) ⟨au rfl, trivial⟩ (fun hw4 => aj 1 aB rfl bJ (by decide) rfl rfl) rfl ?_
 refine a5 [(13, _)] (aa rfl rfl rfl hgc2) ⟨ae rfl, trivial⟩ (fun hw5 => ac bZ rfl hb1 rfl) rfl ?_
 refine a5 [(14, _)] (aa rfl rfl rfl hgc2) ⟨ae rfl, trivial⟩ (fun hw6 => fA rfl rfl) rfl ?_
 refine a4 (bi rfl rfl hgc2) rfl ?_
 refine ogm rfl rfl (al 17 false rfl (fun c3 hgc3 => ?_))
 refine a5 [(1, _)] (aa rfl rfl rfl hgc3) ⟨au rfl, trivial⟩ (fun hw7 => aj 4 aB rfl az (by decide) rfl rfl) rfl ?_
 refine a5 [(18, _)] (aa rfl rfl rfl hgc3) ⟨ae rfl, trivial⟩ (fun hw8 => ac ba rfl hb1 rfl) rfl ?_
 refine a5 [(19, _)] (aa rfl rfl rfl hgc3) ⟨ae rfl, trivial⟩ (fun hw9 => bI aA rfl (by first | assumption | exact Own.rd ‹_› | exact Rd.lh ‹_› hB | exact Own.rd (Own.lh ‹_› hB))) rfl ?_
 refine a5 [(20, _)] (aa rfl rfl rfl hgc3) ⟨ae rfl, trivial⟩ (fun hw10 => dr rfl rfl) rfl ?_
 refine a4 (bi rfl rfl hgc3) rfl ?_
 refine ogm rfl rfl (al 23 false rfl (fun c4 hgc4 => ?_))
 refine a5 [(1, _)] (aa rfl rfl rfl hgc4) ⟨au rfl, trivial⟩ (fun hw11 => aj 5 aB rfl bJ (by decide) rfl rfl) rfl ?_
 refine a5 [(24, _)] (aa rfl rfl rfl hgc4) ⟨ae rfl, trivial⟩ (fun hw12 => ac bZ rfl hb1 rfl) rfl ?_
 refine a5 [(25, _)] (aa rfl rfl rfl hgc4) ⟨ae rfl, trivial⟩ (fun hw13 => bO rfl rfl) rfl ?_
 refine a4 (bi rfl rfl hgc4) rfl ?_
 refine ogm rfl rfl (al 28 false rfl (fun c5 hgc5 => ?_))
 refine a5 [(1, _)] (aa rfl rfl rfl hgc5) ⟨au rfl, trivial⟩ (fun hw14 => aj 5 aB rfl bJ (by decide) rfl rfl) rfl ?_
 refine a5 [(29, _)] (aa rfl rfl rfl hgc5) ⟨ae rfl, trivial⟩ (fun hw15 => ac bZ rfl hb1 rfl) rfl ?_
 refine a5 [(30, _)] (aa rfl rfl rfl hgc5) ⟨ae rfl, trivial⟩ (fun hw16 => dr rfl rfl) rfl ?_
 refine a4 (bi rfl rfl hgc5) rfl ?_
 refine ogm rfl rfl (al 33 false rfl (fun c6 hgc6 => ?_))
 refine a5 [(1, _)] (aa rfl rfl rfl hgc6) ⟨au rfl, trivial⟩ (fun hw17 => aj 6 aB rfl az (by decide) rfl rfl) rfl ?_
 refine a5 [(34, _)] (aa rfl rfl rfl hgc6) ⟨ae rfl, trivial⟩ (fun hw18 => ac ba rfl hb1 rfl) rfl ?_
 refine a5 [(35, _)] (aa rfl rfl rfl hgc6) ⟨ae rfl, trivial⟩ (fun hw19 => bI aA rfl (by first | assumption | exact Own.rd ‹_› | exact Rd.lh ‹_› hB | exact Own.rd (Own.lh ‹_› hB))) rfl ?_
 refine a5 [(36, _)] (aa rfl rfl rfl hgc6) ⟨ae rfl, trivial⟩ (fun hw20 => dr rfl rfl) rfl ?_
 refine a4 (bi rfl rfl hgc6) rfl ?_
 refine aZ (ab [(1, _), (38, _)] ⟨rfl, rfl, trivial⟩ ?_)
 refine bH rfl (fun hc1 => ?_) (fun hc1 => ?_)
 ·
  have hd1 := hc1
  try (simp only [Bool.and_eq_true, Bool.or_eq_true, decide_eq_true_eq, Bool.and_eq_false_iff, Bool.or_eq_false_iff, decide_eq_false_iff_not, Bool.not_eq_true', Bool.not_eq_false', Bool.not_eq_true, Bool.not_eq_false, ne_eq, Decidable.not_not, decide_true, decide_false, Bool.true_and, Bool.false_and, Bool.or_false, Bool.false_or, not_true_eq_false, false_or, or_false, true_and, and_true, not_false_eq_true, reduceCtorEq] at hd1)
  refine aY (aX (oga rfl rfl (aZ (af hfin Tryd.results44 rfl ?_))))
  refine ⟨congrArg Value.bool (eN ?_), hB⟩
  rw [gS]
  try simp only [Bool.and_eq_true, Bool.or_eq_true, decide_eq_true_eq, Bool.false_eq_true, false_iff] at *
  omega
 ·
  have hd2 := hc1
  try (simp only [Bool.and_eq_true, Bool.or_eq_true, decide_eq_true_eq, Bool.and_eq_false_iff, Bool.or_eq_false_iff, decide_eq_false_iff_not, Bool.not_eq_true', Bool.not_eq_false', Bool.not_eq_true, Bool.not_eq_false, ne_eq, Decidable.not_not, decide_true, decide_false, Bool.true_and, Bool.false_and, Bool.or_false, Bool.false_or, not_true_eq_false, false_or, or_false, true_and, and_true, not_false_eq_true, reduceCtorEq] at hd2)
  refine a8 (aY (aY (aX (a4 (aj 2 aB rfl bJ (by decide) rfl rfl) rfl ?_))))
  refine a4 (ac bZ rfl hb1 rfl) rfl ?_
  refine a4 (bF rfl rfl) rfl ?_
  refine aZ (ar rfl (fun hc2 => ?_) (fun hc2 => ?_))
  ·
   refine aY (aX (a4 (aj 3 aB rfl bJ (by decide) rfl rfl) rfl ?_))
   refine a4 (ac bZ rfl hb1 rfl) rfl ?_
   refine a4 (bF rfl rfl) rfl ?_
   refine ogm rfl rfl (al 45 true rfl (fun c7 hgc7 => ?_))
   refine a5 [(1, _)] (aa rfl rfl rfl hgc7) ⟨au rfl, trivial⟩ (fun hw21 => aj 5 aB rfl bJ (by decide) rfl rfl) rfl ?_
   refine a5 [(46, _)] (aa rfl rfl rfl hgc7) ⟨ae rfl, trivial⟩ (fun hw22 => ac bZ rfl hb1 rfl) rfl ?_
   refine a5 [(47, _)] (aa rfl rfl rfl hgc7) ⟨ae rfl, trivial⟩ (fun hw23 => bF rfl rfl) rfl ?_
   refine a4 (ax rfl rfl hgc7) rfl ?_
   refine oga rfl rfl (aZ (ab [(2, _)] ⟨rfl, trivial⟩ ?_))
   refine af hfin Tryd.results44 rfl ?_
   refine ⟨congrArg Value.bool (eN ?_), hB⟩
   rw [gS]
   try simp only [Bool.and_eq_true, Bool.or_eq_true, decide_eq_true_eq, Bool.false_eq_true, false_iff] at *
   omega
  ·
   refine a8 (aY (aX (a4 (aj 2 aB rfl bJ (by decide) rfl rfl) rfl ?_)))
   refine a4 (ac bZ rfl hb1 rfl) rfl ?_
   refine a4 (bF rfl rfl) rfl ?_
   refine ogm rfl rfl (al 53 true rfl (fun c8 hgc8 => ?_))
   refine a5 [(1, _)] (aa rfl rfl rfl hgc8) ⟨au rfl, trivial⟩ (fun hw24 => aj 3 aB rfl bJ (by decide) rfl rfl) rfl ?_
   refine a5 [(54, _)] (aa rfl rfl rfl hgc8) ⟨ae rfl, trivial⟩ (fun hw25 => ac bZ rfl hb1 rfl) rfl ?_
   refine a5 [(55, _)] (aa rfl rfl rfl hgc8) ⟨ae rfl, trivial⟩ (fun hw26 => fA rfl rfl) rfl ?_
   refine a4 (ax rfl rfl hgc8) rfl ?_
   refine ogm rfl rfl (al 58 true rfl (fun c9 hgc9 => ?_))
   refine a5 [(1, _)] (aa rfl rfl rfl hgc9) ⟨au rfl, trivial⟩ (fun hw27 => aj 3 aB rfl bJ (by decide) rfl rfl) rfl ?_
   refine a5 [(59, _)] (aa rfl rfl rfl hgc9) ⟨ae rfl, trivial⟩ (fun hw28 => ac bZ rfl hb1 rfl) rfl ?_
   refine a5 [(60, _)] (aa rfl rfl rfl hgc9) ⟨ae rfl, trivial⟩ (fun hw29 => bO rfl rfl) rfl ?_
   refine a4 (ax rfl rfl hgc9) rfl ?_
   refine oga rfl rfl (aZ (ab [(2, _)] ⟨rfl, trivial⟩ ?_))
   refine af hfin Tryd.results44 rfl ?_
   refine ⟨congrArg Value.bool (eN ?_), hB⟩
   rw [gS]
   try simp only [Bool.and_eq_true, Bool.or_eq_true, decide_eq_true_eq, Bool.false_eq_true, false_iff] at *
   omega
theorem jv (g m b : Value) (x : Fm) (w : World) (hg : RdB w g x.gs) (hm : RdB w m x.ms) (hb : RdB w b x.bs) : Rets Tryd.prog 45 [.agg [g, .int .i64 x.ep, .int .i64 x.fr, .int .i64 x.lf, m, .int .i64 x.kd, b].toArray, .int .i64 x.wi] w (fun v w' => v = .bool (wOk x) ∧ Keep [] w w') := by
 have hB : Keep [] w w := Keep.refl _ _
 refine ad Tryd.func45 rfl (by decide) Tryd.ntmps45 rfl (fun fin _ hfin => ?_)
 refine aY (aX (ah (bz (cs := [g, .int .i64 x.ep, .int .i64 x.fr, .int .i64 x.lf, m, .int .i64 x.kd, b]) rfl rfl) rfl ?_))
 rintro _ w1 ⟨b1, rfl, eb1, hb1, k1, z1⟩
 have ge_b1 : w.heap.size ≤ b1 := by have := hB.size; omega
 replace hB := hB.trans k1
 clear eb1 z1
 refine oga rfl rfl (aZ (aY (aY (aX (ogm rfl rfl (a4 (bF rfl rfl) rfl ?_))))))
 refine aZ (ar rfl (fun hc1 => ?_) (fun hc1 => ?_))
 ·
  refine aY (aX (a4 (aj 5 aB rfl bJ (by decide) rfl rfl) rfl ?_))
  refine a4 (ac bZ rfl hb1 rfl) rfl ?_
  refine a4 (cC rfl rfl) rfl ?_
  refine oga rfl rfl (aZ (af hfin Tryd.results45 rfl ?_))
  refine ⟨congrArg Value.bool (eN ?_), hB⟩
  rw [jb]
  simp only [Bool.and_eq_true, decide_eq_true_eq]
  omega
 ·
  refine a8 (aY (aX (ogm rfl rfl (a4 (bF rfl rfl) rfl ?_))))
  refine ogm rfl rfl (al 12 true rfl (fun c1 hgc1 => ?_))
  refine a5 [(2, _)] (aa rfl rfl rfl hgc1) ⟨au rfl, trivial⟩ (fun hw1 => aj 2 aB rfl bJ (by decide) rfl rfl) rfl ?_
  refine a5 [(13, _)] (aa rfl rfl rfl hgc1) ⟨ae rfl, trivial⟩ (fun hw2 => ac bZ rfl hb1 rfl) rfl ?_
  refine a5 [(14, _)] (aa rfl rfl rfl hgc1) ⟨ae rfl, trivial⟩ (fun hw3 => bF rfl rfl) rfl ?_
  refine a4 (ax rfl rfl hgc1) rfl ?_
  refine oga rfl rfl (aZ (ab [(4, _)] ⟨rfl, trivial⟩ ?_))
  refine af hfin Tryd.results45 rfl ?_
  refine ⟨congrArg Value.bool (eN ?_), hB⟩
  rw [jb]
  simp only [Bool.and_eq_true, decide_eq_true_eq]
  omega
theorem cj (g m b sg cf : Value) (x : Fm) (w : World) (hg : RdB w g x.gs) (hm : RdB w m x.ms) (hb : RdB w b x.bs) (hs : RdB w sg x.ss) (hc : RdB w cf x.cs) : Rets Tryd.prog 21 [.agg [g, .int .i64 x.ep, .int .i64 x.fr, .int .i64 x.lf, m, .int .i64 x.kd, b, .int .i64 x.wi, sg, cf].toArray] w (fun v w' => v = .bool (sOk x) ∧ Keep [] w w') := by
 have hB : Keep [] w w := Keep.refl _ _
 refine ad Tryd.func21 rfl (by decide) Tryd.ntmps21 rfl (fun fin _ hfin => ?_)
 refine aY (aX (ah (bz (cs := [g, .int .i64 x.ep, .int .i64 x.fr, .int .i64 x.lf, m, .int .i64 x.kd, b, .int .i64 x.wi, sg, cf]) rfl rfl) rfl ?_))
 rintro _ w1 ⟨b1, rfl, eb1, hb1, k1, z1⟩
 have ge_b1 : w.heap.size ≤ b1 := by have := hB.size; omega
 replace hB := hB.trans k1
 clear eb1 z1
 refine oga rfl rfl (aZ (aY (aY (aX (a4 (aj 0 aL rfl ej (by decide) rfl rfl) rfl ?_)))))
 refine a4 (an (cs' := [_, _, _, _, _, _, _]) jJ ej rfl hb1 rfl rfl) rfl ?_
 refine ah (a7 (vs := [_]) rfl (gB g m b x _ (hg.lh hB) (hm.lh hB) (hb.lh hB))) rfl ?_
 rintro _ w2 ⟨rfl, k2⟩
 replace hb1 := hb1.lh k2
 replace hB := hB.trans k2
 refine a4 (dq rfl) rfl ?_
 refine ogm rfl rfl (al 7 false rfl (fun c1 hgc1 => ?_))
 refine a5 [(1, _)] (aa rfl rfl rfl hgc1) ⟨au rfl, trivial⟩ (fun hw1 => aj 0 aL rfl ej (by decide) rfl rfl) rfl ?_
 refine a5 [(8, _)] (aa rfl rfl rfl hgc1) ⟨ae rfl, trivial⟩ (fun hw2 => an (cs' := [_, _, _, _, _, _, _]) jJ ej rfl hb1 rfl rfl) rfl ?_
 refine a5 [(1, _)] (aa rfl rfl rfl hgc1) ⟨au rfl, trivial⟩ (fun hw3 => aj 7 aL rfl bJ (by decide) rfl rfl) rfl ?_
 refine a5 [(10, _)] (aa rfl rfl rfl hgc1) ⟨ae rfl, trivial⟩ (fun hw4 => ac bZ rfl hb1 rfl) rfl ?_
 refine cQ [(9, _), (11, _)] (aa rfl rfl rfl hgc1) ⟨ae rfl, ae rfl, trivial⟩ (fun hw5 => a7 (vs := [_, _]) rfl (jv g m b x _ (hg.lh hB) (hm.lh hB) (hb.lh hB))) rfl ?_
 rintro w4 k4
 replace hb1 := hb1.lh k4
 replace hB := hB.trans k4
 refine a5 [(12, _)] (aa rfl rfl rfl hgc1) ⟨ae rfl, trivial⟩ (fun hw6 => dq rfl) rfl ?_
 refine a4 (bi rfl rfl hgc1) rfl ?_
 refine ogm rfl rfl (al 15 false rfl (fun c2 hgc2 => ?_))
 refine a5 [(1, _)] (aa rfl rfl rfl hgc2) ⟨au rfl, trivial⟩ (fun hw7 => aj 8 aL rfl az (by decide) rfl rfl) rfl ?_
 refine a5 [(16, _)] (aa rfl rfl rfl hgc2) ⟨ae rfl, trivial⟩ (fun hw8 => ac ba rfl hb1 rfl) rfl ?_
 refine a5 [(17, _)] (aa rfl rfl rfl hgc2) ⟨ae rfl, trivial⟩ (fun hw9 => bI aA rfl (by first | assumption | exact Own.rd ‹_› | exact Rd.lh ‹_› hB | exact Own.rd (Own.lh ‹_› hB))) rfl ?_
 refine a5 [(18, _)] (aa rfl rfl rfl hgc2) ⟨ae rfl, trivial⟩ (fun hw10 => cC rfl rfl) rfl ?_
 refine a4 (bi rfl rfl hgc2) rfl ?_
 refine aZ (ab [(1, _), (20, _)] ⟨rfl, rfl, trivial⟩ ?_)
 refine bH rfl (fun hc1 => ?_) (fun hc1 => ?_)
 ·
  have hd1 := hc1
  try (simp only [Bool.and_eq_true, Bool.or_eq_true, decide_eq_true_eq, Bool.and_eq_false_iff, Bool.or_eq_false_iff, decide_eq_false_iff_not, Bool.not_eq_true', Bool.not_eq_false', Bool.not_eq_true, Bool.not_eq_false, ne_eq, Decidable.not_not, decide_true, decide_false, Bool.true_and, Bool.false_and, Bool.or_false, Bool.false_or, not_true_eq_false, false_or, or_false, true_and, and_true, not_false_eq_true, reduceCtorEq] at hd1)
  refine aY (aX (oga rfl rfl (aZ (af hfin Tryd.results21 rfl ?_))))
  refine ⟨congrArg Value.bool (eN ?_), hB⟩
  rw [iO]
  by_cases h39 : x.kd = 3 <;> cases hc9 : cOk x <;> cases hw9 : wOk x <;> simp_all <;> omega
 ·
  have hd2 := hc1
  try (simp only [Bool.and_eq_true, Bool.or_eq_true, decide_eq_true_eq, Bool.and_eq_false_iff, Bool.or_eq_false_iff, decide_eq_false_iff_not, Bool.not_eq_true', Bool.not_eq_false', Bool.not_eq_true, Bool.not_eq_false, ne_eq, Decidable.not_not, decide_true, decide_false, Bool.true_and, Bool.false_and, Bool.or_false, Bool.false_or, not_true_eq_false, false_or, or_false, true_and, and_true, not_false_eq_true, reduceCtorEq] at hd2)
  refine a8 (aY (aY (aX (a4 (aj 0 aL rfl ej (by decide) rfl rfl) rfl ?_))))
  refine a4 (aj 5 aB rfl bJ (by decide) rfl rfl) rfl ?_
  refine a4 (ac bZ rfl hb1 rfl) rfl ?_
  refine a4 (bF rfl rfl) rfl ?_
  refine aZ (ar rfl (fun hc2 => ?_) (fun hc2 => ?_))
  ·
   refine aY (aX (a4 (aj 9 aL rfl az (by decide) rfl rfl) rfl ?_))
   refine a4 (ac ba rfl hb1 rfl) rfl ?_
   refine a4 (bI aA rfl (by first | assumption | exact Own.rd ‹_› | exact Rd.lh ‹_› hB | exact Own.rd (Own.lh ‹_› hB))) rfl ?_
   refine a4 (bF rfl rfl) rfl ?_
   refine oga rfl rfl (aZ (ab [(2, _)] ⟨rfl, trivial⟩ ?_))
   refine af hfin Tryd.results21 rfl ?_
   refine ⟨congrArg Value.bool (eN ?_), hB⟩
   rw [iO]
   by_cases h39 : x.kd = 3 <;> cases hc9 : cOk x <;> cases hw9 : wOk x <;> simp_all <;> omega
  ·
   refine a8 (aY (aX (a4 (aj 9 aL rfl az (by decide) rfl rfl) rfl ?_)))
   refine a4 (ac ba rfl hb1 rfl) rfl ?_
   refine a4 (bI aA rfl (by first | assumption | exact Own.rd ‹_› | exact Rd.lh ‹_› hB | exact Own.rd (Own.lh ‹_› hB))) rfl ?_
   refine a4 (bF rfl rfl) rfl ?_
   refine oga rfl rfl (aZ (ab [(2, _)] ⟨rfl, trivial⟩ ?_))
   refine af hfin Tryd.results21 rfl ?_
   refine ⟨congrArg Value.bool (eN ?_), hB⟩
   rw [iO]
   by_cases h39 : x.kd = 3 <;> cases hc9 : cOk x <;> cases hw9 : wOk x <;> simp_all <;> omega
end Go.Proofs.YtjfmmoonpdifcaaDoor.W
namespace Go.Eng
open Go
section
variable {P : Program} {n : NN} {fin : Exit → Act → World → Prop} {k : List KI} {f : Fr} {w : World}
theorem jP {id : Nat} {l : List Oper} (p : Nat) (hm : P.follows .mixedOrders = true) (f0 : Fr) (S : Nat → Value → World → Prop) (hf : Fr.sub f0 f) (hok : drawOk n l = true) (ht : dZ l p = true) (hfree0 : freeOk (l.take p) f0 = true)
   (hst : ∀ i v w w', S i v w → Keep [] w w' → S i v w')
   (hob : ObsP P n l f0 S w 0 (l.take p))
   (h : ∀ w', Keep [] w w' → ∀ vs : Nat → Value, (∀ i, i < p → hasDst l i = true → S i (vs i) w') → OW P fin n k l.toArray (l.drop p) (depFr l vs ((List.range p).filter (hasDst l)) ++ f0) w') :
   TW P fin n (.c (.region id l.toArray true) :: k) f w := by
 intro a ha
 simp only [KQ]
 have ha0 := ha.sub hf
 have hfree : ∀ i, i < p → i < l.length → hasDst l i = true → f0.get (dstOf l i) = none := by
   intro i hi hl hd
   have e1 : dstOf (l.take p) i = dstOf l i := by unfold dstOf; rw [List.getElem?_take, if_pos hi]
   have e2 : hasDst (l.take p) i = hasDst l i := by unfold hasDst; rw [List.getElem?_take, if_pos hi]
   rw [← e1]
   exact cD (l := l.take p) (by rw [List.length_take]; omega) (by rw [e2]; exact hd) hfree0
 refine wp_region_any hm ?_
 have hpl : p ≤ l.length := by simp only [dZ, Bool.and_eq_true] at ht; exact Nat.le_of_ble_eq_true ht.1.1
 have hobJ := hob.obsJ
 have hend : ∀ (fuel : Nat) (listed : Array Bool) (a : Act) (w' : World), listed.size = l.length → left l.length listed ≤ fuel → Kn n f0 a → Keep [] w w' → (∀ i, i < l.length → listed.getD i false = decide (i < p)) →
     (∀ i, listed.getD i false = true → i < l.length ∧ (hasDst l i = true → S i (a.tmps.getD (dstOf l i) undef) w')) → wpAny P .any l.toArray (KQ P fin k) fuel listed a w' := by
   intro fuel listed a w' hs hle hk hw hall hS
   refine eC hok ht (l.length - p) p fuel listed a w' rfl hpl (Nat.le_refl _) ?_ hs hall ?_
   · refine Nat.le_trans ?_ hle
     unfold left
     have e1 : l.length - p = ((List.range' p (l.length - p)).countP fun i => !listed.getD i true) := by
       rw [List.countP_eq_length.2 (fun i hi => ?_)]
       · simp
       · rw [List.mem_range'_1] at hi
         rw [bP hs (by omega) true false, hall i (by omega)]; simp; omega
     rw [e1]
     have e2 : List.range l.length = List.range p ++ List.range' p (l.length - p) := by
       have e3 := List.range'_append_1 (s := 0) (m := p) (n := l.length - p)
       rw [Nat.zero_add] at e3
       rw [List.range_eq_range', List.range_eq_range', e3]; congr 1; omega
     rw [e2, List.countP_append]; omega
   · refine h w' hw (fun i => a.tmps.getD (dstOf l i) undef) (fun i hi => (hS i (by rw [hall i (by omega)]; simpa using hi)).2) a (Kn.app ?_ hk)
     intro q hq
     obtain ⟨j, _, rfl⟩ := ca hq
     rfl
 have key : ∀ (fuel : Nat) (listed : Array Bool) (L : Nat → Bool) (a : Act) (w' : World), listed.size = l.length → (∀ i, L i = listed.getD i false) → left l.length listed ≤ fuel → Kn n f0 a → Keep [] w w' → (∀ i, p ≤ i → i < l.length → listed.getD i false = false) → (∀ m j, listed.getD m false = true → depB l m j = true → listed.getD j false = true) →
     (∀ i, listed.getD i false = true → i < l.length ∧ (hasDst l i = true → S i (a.tmps.getD (dstOf l i) undef) w')) → wpAny P .any l.toArray (KQ P fin k) fuel listed a w' := by
   intro fuel
   induction fuel with
   | zero =>
     intro listed L a w' hs hL hle hk hw hun hcl hS
     refine hend 0 listed a w' hs hle hk hw (fun i hi => ?_) hS
     cases hc : listed.getD i false with
     | true => by_cases h1 : i < p
               · simp [h1]
               · rw [hun i (by omega) hi] at hc; cases hc
     | false =>
       exfalso
       have := cm hi hs (by rw [bP hs hi true false]; exact hc)
       omega
   | succ fuel ih =>
     intro listed L a w' hs hL hle hk hw hun hcl hS
     by_cases hfull : ∀ i, i < p → listed.getD i false = true
     · refine hend (fuel + 1) listed a w' hs hle hk hw (fun i hi => ?_) hS
       by_cases h1 : i < p
       · rw [hfull i h1]; simp [h1]
       · rw [hun i (by omega) hi]; simp [h1]
     · obtain ⟨q, hq⟩ := Classical.not_forall.1 hfull
       obtain ⟨hq1, hq2⟩ := Classical.not_imp.1 hq
       have hq2 : listed.getD q false = false := eq_false_of_ne_true hq2
       refine ⟨fun hr => (by
         have := dn hok rfl hs hr q (by omega)
         rw [hq2] at this; cases this), fun i hi => ?_⟩
       obtain ⟨h0, o, ho, hedge⟩ := mem_ready.1 hi
       have ho' : l[i]? = some o := by simpa using ho
       have hlt : i < l.length := (List.getElem?_eq_some_iff.1 ho').1
       have hip : i < p := by
         rcases Nat.lt_or_ge i p with h1 | h1
         · exact h1
         · exfalso
           have hdepl : ∀ j, depB l i j = true → listed.getD j false = true := by
             intro j hd
             obtain ⟨o', ho2, e, he, h3, h4⟩ := fB hd
             rw [ho'] at ho2
             obtain rfl := Option.some.inj ho2
             have := hedge e he h4
             rwa [h3] at this
           rcases Nat.lt_or_ge p i with h8 | h8
           · have := hdepl _ (eb ht hlt h8)
             rw [hun (i - 1) (by omega) (by omega)] at this; cases this
           · have hpi : i = p := by omega
             have := fm (S := fun j => listed.getD j false = true) ht (by omega) (fun m j hm hd => hm.elim (fun e => hdepl j (by rw [hpi, ← e]; exact hd)) (fun hl => hcl m j hl hd)) _ q hq1 rfl
             rw [hq2] at this; cases this
       have hobi := ObsJ.get hobJ i o (by rw [List.getElem?_take, if_pos hip]; exact ho')
       rw [Nat.zero_add] at hobi
       obtain ⟨deps, hdep, hobl⟩ := hobi
       have h1 := List.all_eq_true.1 hok i (List.mem_range.2 hlt)
       simp only [ho', Bool.and_eq_true] at h1
       obtain ⟨⟨hd2, _⟩, hd4⟩ := h1
       have hLi : L i = false := by rw [hL, bP hs hlt false true]; exact h0
       have hdl : ∀ j, j ∈ deps → listed.getD j false = true := by
         intro j hj
         have h2 := List.all_eq_true.1 hdep j hj
         simp only [ho', Bool.and_eq_true] at h2
         obtain ⟨e, he, h3⟩ := List.any_eq_true.1 h2.2
         simp only [Bool.and_eq_true, beq_iff_eq] at h3
         have := hedge e (Array.mem_toList_iff.1 he) h3.2
         rwa [h3.1] at this
       have hdeps : ∀ j, j ∈ deps → S j (a.tmps.getD (dstOf l j) undef) w' := by
         intro j hj
         have h2 := List.all_eq_true.1 hdep j hj
         simp only [ho', Bool.and_eq_true] at h2
         exact (hS j (hdl j hj)).2 h2.1
       obtain ⟨c, hc1, hc2, hc3⟩ := hobl L w' hLi (fun j hj => by rw [hL]; exact hdl j hj) hw trivial (fun j => a.tmps.getD (dstOf l j) undef) hdeps
       have hkd : Kn n (depFr l (fun j => a.tmps.getD (dstOf l j) undef) deps ++ f0) a := Kn.app (fun p hp => by
         obtain ⟨j, _, rfl⟩ := ca hp; rfl) hk
       have hL' : ∀ j, updL L i j = (listed.setIfInBounds i true).getD j false := by
         intro j
         unfold updL
         by_cases hij : j = i
         · subst hij
           have : Nat.beq j j = true := Nat.beq_refl j
           rw [this, Array.getD_eq_getD_getElem?]
           simp [hs, hlt]
         · have : Nat.beq j i = false := by
             cases hb : Nat.beq j i with
             | false => rfl
             | true => exact absurd (Nat.eq_of_beq_eq_true hb) hij
           rw [this, getD_set_ne false (Ne.symm hij), cond_false, hL]
       have hleft := cm hlt hs h0
       have hun' : ∀ j, p ≤ j → j < l.length → (listed.setIfInBounds i true).getD j false = false := fun j h1 h2 => by rw [getD_set_ne false (by omega)]; exact hun j h1 h2
       have hcl' : ∀ m j, (listed.setIfInBounds i true).getD m false = true → depB l m j = true → (listed.setIfInBounds i true).getD j false = true := by
         intro m j hm hd
         have hone : (listed.setIfInBounds i true).getD i false = true := by rw [Array.getD_eq_getD_getElem?]; simp [hs, hlt]
         have hup : listed.getD j false = true → (listed.setIfInBounds i true).getD j false = true := by
           intro h
           by_cases hij : i = j
           · subst hij; exact hone
           · rw [getD_set_ne false hij]; exact h
         by_cases him : i = m
         · subst him
           obtain ⟨o', ho2, e, he, h3, h4⟩ := fB hd
           rw [ho'] at ho2
           obtain rfl := Option.some.inj ho2
           have := hedge e he h4
           rw [h3] at this
           exact hup this
         · rw [getD_set_ne false him] at hm
           exact hup (hcl m j hm hd)
       have hnext : ∀ v w2, Keep [] w' w2 → S i v w2 → wpAny P .any l.toArray (KQ P fin k) fuel (listed.setIfInBounds i true) (a.put o.dst v) w2 := by
         intro v w2 hk2 hSv
         cases hod : o.dst with
         | none =>
           refine ih _ (updL L i) _ _ (by simpa using hs) hL' (by omega) hk (hw.trans hk2) hun' hcl' ?_
           intro j hj
           by_cases hij : i = j
           · subst hij
             exact ⟨hlt, fun hd => by simp [hasDst, ho', hod] at hd⟩
           · rw [getD_set_ne false hij] at hj
             obtain ⟨hjl, hSj⟩ := hS j hj
             exact ⟨hjl, fun hd => hst _ _ _ _ (hSj hd) hk2⟩
         | some d =>
           have hdd : dstOf l i = d := by simp [dstOf, ho', hod]
           have hhd : hasDst l i = true := by simp [hasDst, ho', hod]
           rw [hdd] at hd2
           have hdn : d < n := bD hd2
           refine ih _ (updL L i) _ _ (by simpa using hs) hL' (by omega) (hk.putOther (by rw [← hdd]; exact hfree i hip hlt hhd) v) (hw.trans hk2) hun' hcl' ?_
           intro j hj
           by_cases hij : i = j
           · subst hij
             refine ⟨hlt, fun _ => ?_⟩
             rw [hdd]
             have : (a.put (some d) v).tmps.getD d undef = v := by simp [Act.put, Array.getD_eq_getD_getElem?, hk.size, hdn]
             rw [this]; exact hSv
           · rw [getD_set_ne false hij] at hj
             obtain ⟨hjl, hSj⟩ := hS j hj
             refine ⟨hjl, fun hdj => ?_⟩
             have hne : d ≠ dstOf l j := by
               rw [hod] at hd4
               have h6 : ∀ x, x < l.length → (i = x ∨ ¬ dstOf l i = dstOf l x) ∨ hasDst l x = false := by simpa using hd4
               rcases h6 j hjl with (h7 | h7) | h7
               · exact absurd h7 hij
               · rwa [hdd] at h7
               · rw [hdj] at h7; cases h7
             have : (a.put (some d) v).tmps.getD (dstOf l j) undef = a.tmps.getD (dstOf l j) undef := by
               simp only [Act.put, Array.getD_eq_getD_getElem?]; rw [Array.getElem?_setIfInBounds_ne hne]
             rw [this]; exact hst _ _ _ _ (hSj hdj) hk2
       unfold wpOp
       rw [ho]
       simp only
       rw [hc1 a hkd]
       cases c with
       | true =>
         rw [if_pos rfl]
         exact .inl (hc2 rfl a hkd o.dst o.pos o.after o.guard _ _ (fun v w2 hv => hnext v w2 hv.1 hv.2.1))
       | false =>
         rw [if_neg (by simp)]
         exact hnext undef w' (Keep.refl _ _) (hc3 rfl).1
 refine key _ _ (fun _ => false) a _ (by simp) ?_ ?_ ha0 (bp w) ?_ ?_ ?_
 · intro i
   rw [Array.getD_eq_getD_getElem?]
   rcases Nat.lt_or_ge i l.toArray.size with h' | h'
   · rw [Array.getElem?_eq_getElem (by simpa using h')]; simp
   · rw [Array.getElem?_eq_none (by simpa using h')]; rfl
 · unfold left
   have := List.countP_le_length (p := fun i => !(Array.replicate l.toArray.size false).getD i true) (l := List.range l.length)
   simpa using this
 · intro i _ hi
   rw [Array.getD_eq_getD_getElem?, Array.getElem?_eq_getElem (by simpa using hi)]; simp
 · intro i j hi
   exfalso
   rw [Array.getD_eq_getD_getElem?] at hi
   rcases Nat.lt_or_ge i l.toArray.size with h' | h'
   · rw [Array.getElem?_eq_getElem (by simpa using h')] at hi; simp at hi
   · rw [Array.getElem?_eq_none (by simpa using h')] at hi; simp at hi
 · intro i hi
   exfalso
   rw [Array.getD_eq_getD_getElem?] at hi
   rcases Nat.lt_or_ge i l.toArray.size with h' | h'
   · rw [Array.getElem?_eq_getElem (by simpa using h')] at hi; simp at hi
   · rw [Array.getElem?_eq_none (by simpa using h')] at hi; simp at hi
end
end Go.Eng
