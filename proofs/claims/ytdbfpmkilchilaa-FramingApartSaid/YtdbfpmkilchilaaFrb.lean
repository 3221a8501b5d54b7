import Derived.Test.YtdbfpmkilchilaaFra
import Derived.Test.YtdbfpmkilchilaaEncL
namespace Go.Proofs.Ytdbfpmkilchilaa.W
open Go Go.Eng Go.Byt
set_option linter.unusedVariables false
set_option linter.unusedSimpArgs false
set_option maxRecDepth 100000 in
theorem rnumber_err (p : Nat) (rest : List UInt8) (e size : Int) (w : World) (h : Rdr w p rest e) (he : e ≠ 0) : Rets Try.prog 72 [.pointer (some ⟨p, 0, none⟩), .int .i64 size] w (fun v w' => v = .int .i64 0 ∧ w = w') := by
  refine rets_of_tw Try.func72 rfl (by decide) Try.ntmps72 rfl (fun fin _ hfin => ?_)
  refine tw_seq ?_
  refine tw_region ?_
  refine ow_g (g_as rfl) rfl ?_
  refine ow_nil ?_
  refine tw_scope 1 ?_
  refine tw_seq ?_
  refine tw_seq ?_
  refine tw_region ?_
  refine ow_g (g_mv rfl) rfl ?_
  refine ow_d (d_call (vs := [_]) rfl (err_any _ _ _ _ h)) rfl ?_
  rintro _ _ ⟨rfl, rfl⟩
  refine ow_g (g_ne rfl rfl) rfl ?_
  refine ow_nil ?_
  refine tw_ifT rfl (he) ?_
  refine tw_seq ?_
  refine tw_region ?_
  refine ow_g (g_as rfl) rfl ?_
  refine ow_nil ?_
  refine tw_ret1 hfin Try.results72 rfl ?_
  exact ⟨rfl, rfl⟩

set_option maxRecDepth 100000 in
theorem vector_err (p : Nat) (rest : List UInt8) (e : Int) (w : World) (h : Rdr w p rest e) (he : e ≠ 0) : Rets Try.prog 52 [.pointer (some ⟨p, 0, none⟩)] w (fun v w' => v = .slice none 0 0 ∧ w = w') := by
  refine rets_of_tw Try.func52 rfl (by decide) Try.ntmps52 rfl (fun fin _ hfin => ?_)
  refine tw_seq ?_
  refine tw_region ?_
  refine ow_g (g_as rfl) rfl ?_
  refine ow_nil ?_
  refine tw_seq ?_
  refine tw_seq ?_
  refine tw_region ?_
  refine ow_g (g_mv rfl) rfl ?_
  refine ow_d (d_call (vs := [_]) rfl (err_any _ _ _ _ h)) rfl ?_
  rintro _ _ ⟨rfl, rfl⟩
  refine ow_g (g_ne rfl rfl) rfl ?_
  refine ow_nil ?_
  refine tw_ifT rfl (he) ?_
  refine tw_seq ?_
  refine tw_region ?_
  refine ow_g (g_as rfl) rfl ?_
  refine ow_nil ?_
  refine tw_ret1 hfin Try.results52 rfl ?_
  exact ⟨rfl, rfl⟩

theorem rnumber_nil (p : Nat) (w : World) (h : Rdr w p [] 0) : Rets Try.prog 72 [.pointer (some ⟨p, 0, none⟩), .int .i64 4] w (fun v w' => v = .int .i64 0 ∧ Rdr w' p [] 20 ∧ Keep [p] w w') :=
  (rnumber_any p [] 0 4 w h (by decide)).mono fun v w' ⟨r, h1, h2, h3, h4⟩ => by
    have e : rNum (bitsOf 4) [] 0 4 = (0, [], 20) := by decide
    rw [e] at h1; subst h1; exact ⟨h2, h3, h4⟩
theorem Rdr.keepB {w w' : World} {p b : Nat} {e : Int} (h : Rdr w p [] e) (k : Keep [b] w w') (hn : p ≠ b) : Rdr w' p [] e := by
  obtain ⟨bw, hb, ⟨A, c, h1, h2, h3, h4, h5, h6⟩, hx⟩ := h
  refine ⟨bw, hb.keepP k hn, ⟨A, c, h1, h2, h3, h4, h5, fun a ha j u hu => by simp [bv] at hu⟩, hx⟩
set_option maxRecDepth 100000 in
theorem get_public_nil (w : World) : Rets Try.prog 46 [.slice none 0 0] w (fun v w' => v = .tuple #[.agg [.slice none 0 0, .int .i64 0, .int .i64 0, .int .i64 0, .slice none 0 0, .int .i64 0, .slice none 0 0, .int .i64 0, .slice none 0 0, .slice none 0 0].toArray, .slice none 0 0, .int .i64 21] ∧ Keep [] w w') := by
  have hB : Keep [] w w := Keep.refl _ _
  refine rets_of_tw Try.func46 rfl (by decide) Try.ntmps46 rfl (fun fin _ hfin => ?_)
  refine tw_seq ?_
  refine tw_region ?_
  refine ow_d (d_alloc ty105) rfl ?_
  rintro _ w1 ⟨b1, rfl, eb1, hb1, k1, z1⟩
  have z_k1 := k1.size
  replace hB := hB.trans k1
  refine ow_g (g_as rfl) rfl ?_
  refine ow_g (g_as rfl) rfl ?_
  refine ow_nil ?_
  refine tw_scope 1 ?_
  refine tw_seq ?_
  refine tw_region ?_
  refine ow_g (g_mv rfl) rfl ?_
  refine ow_d (d_call (vs := [_]) rfl (new_any _ [] _ (Rd.nil _ _) (by decide))) rfl ?_
  rintro _ w2 ⟨p1, rfl, hp1, rq1, k2⟩
  have z_k2 := k2.size
  replace hb1 := hb1.keep0 k2
  replace hB := hB.trans k2
  have hpl := rq1.lt
  refine ow_g (g_as rfl) rfl ?_
  refine ow_nil ?_
  refine tw_seq ?_
  refine tw_region ?_
  refine ow_g (g_mv rfl) rfl ?_
  refine ow_d (d_call (vs := [_, _]) rfl (rnumber_nil _ _ rq1)) rfl ?_
  rintro _ w3 ⟨rfl, rq2, k3⟩
  have z_k3 := k3.size
  replace hb1 := hb1.keep k3 (fun hm => by have h2 := List.mem_singleton.1 hm; omega)
  replace hB := hB.new k3 (fun x hx => .inl (by have h2 := List.mem_singleton.1 hx; omega))
  have hpl2 := rq2.lt
  refine ow_g (g_as rfl) rfl ?_
  refine ow_nil ?_
  refine tw_seq ?_
  refine tw_region ?_
  refine ow_g (g_mv rfl) rfl ?_
  refine ow_d (d_call (vs := [_]) rfl (vector_err _ _ _ _ (by assumption) (by decide))) rfl ?_
  rintro _ _ ⟨rfl, rfl⟩
  refine ow_g (g_mv rfl) rfl ?_
  refine ow_d (d_call (vs := [_, _]) rfl (rnumber_err _ _ _ _ _ (by assumption) (by decide))) rfl ?_
  rintro _ _ ⟨rfl, rfl⟩
  refine ow_g (g_mv rfl) rfl ?_
  refine ow_d (d_call (vs := [_, _]) rfl (rnumber_err _ _ _ _ _ (by assumption) (by decide))) rfl ?_
  rintro _ _ ⟨rfl, rfl⟩
  refine ow_g (g_bld (idx := [0, 1, 2]) (xs := [.tmp 13, .tmp 15, .tmp 17]) (vs := [_, _, _]) (css := [[_], [_], [_]]) (out := [_, _, _, _, _, _, _]) pl28 ty28 rfl rfl ⟨rfl, rfl, rfl, trivial⟩ rfl rfl) rfl ?_
  refine ow_d (d_alloc ty28) rfl ?_
  rintro _ w4 ⟨b2, rfl, eb2, hb2, k4, z2⟩
  have z_k4 := k4.size
  replace hb1 := hb1.keep0 k4
  replace rq2 := rq2.keep0 k4
  replace hB := hB.trans k4
  refine ow_d0 (d_sta ty28 rfl rfl rfl (by simp only [List.forall_mem_cons]; refine ⟨(by first | rfl | exact Rd.one (by first | assumption | exact Own.rd (by assumption) | exact Rd.keep0 (by assumption) hB | exact Own.rd (Own.keep0 (by assumption) hB))), (by first | rfl | exact Rd.one (by first | assumption | exact Own.rd (by assumption) | exact Rd.keep0 (by assumption) hB | exact Own.rd (Own.keep0 (by assumption) hB))), (by first | rfl | exact Rd.one (by first | assumption | exact Own.rd (by assumption) | exact Rd.keep0 (by assumption) hB | exact Own.rd (Own.keep0 (by assumption) hB))), (by first | rfl | exact Rd.one (by first | assumption | exact Own.rd (by assumption) | exact Rd.keep0 (by assumption) hB | exact Own.rd (Own.keep0 (by assumption) hB))), (by first | rfl | exact Rd.one (by first | assumption | exact Own.rd (by assumption) | exact Rd.keep0 (by assumption) hB | exact Own.rd (Own.keep0 (by assumption) hB))), (by first | rfl | exact Rd.one (by first | assumption | exact Own.rd (by assumption) | exact Rd.keep0 (by assumption) hB | exact Own.rd (Own.keep0 (by assumption) hB))), (by first | rfl | exact Rd.one (by first | assumption | exact Own.rd (by assumption) | exact Rd.keep0 (by assumption) hB | exact Own.rd (Own.keep0 (by assumption) hB))), fun v hv => by cases hv⟩) hb2 rfl) ?_
  rintro _ w5 ⟨hb3, k5, z3⟩
  have z_k5 := k5.size
  replace hb1 := hb1.keep k5 (fun hm => by have h2 := List.mem_singleton.1 hm; omega)
  replace rq2 := rq2.keepB k5 (by omega)
  replace hB := hB.new k5 (fun x hx => .inl (by have h2 := List.mem_singleton.1 hx; omega))
  refine ow_nil ?_
  refine tw_seq ?_
  refine tw_seq ?_
  refine tw_region ?_
  refine ow_g (g_fa Try.underlying28 rfl ty3 (by decide) rfl) rfl ?_
  refine ow_g (g_ldb sc3 rfl (by assumption) rfl) rfl ?_
  refine ow_g (g_eq rfl rfl) rfl ?_
  refine ow_nil ?_
  refine tw_ifF rfl (by decide) ?_
  refine tw_skip ?_
  refine tw_seq ?_
  refine tw_region ?_
  refine ow_g (g_mv rfl) rfl ?_
  refine ow_d (d_call (vs := [_]) rfl (vector_err _ _ _ _ (by assumption) (by decide))) rfl ?_
  rintro _ _ ⟨rfl, rfl⟩
  refine ow_g (g_mv rfl) rfl ?_
  refine ow_d (d_call (vs := [_, _]) rfl (rnumber_err _ _ _ _ _ (by assumption) (by decide))) rfl ?_
  rintro _ _ ⟨rfl, rfl⟩
  refine ow_g (g_mv rfl) rfl ?_
  refine ow_d (d_call (vs := [_]) rfl (vector_err _ _ _ _ (by assumption) (by decide))) rfl ?_
  rintro _ _ ⟨rfl, rfl⟩
  refine ow_g (g_fa Try.underlying28 rfl ty22 (by decide) rfl) rfl ?_
  refine ow_d0 (d_st ty22 rfl rfl rfl hb3 rfl) ?_
  rintro _ w6 ⟨hb4, k6, z4⟩
  have z_k6 := k6.size
  replace hb1 := hb1.keep k6 (fun hm => by have h2 := List.mem_singleton.1 hm; omega)
  replace rq2 := rq2.keepB k6 (by omega)
  replace hB := hB.new k6 (fun x hx => .inl (by have h2 := List.mem_singleton.1 hx; omega))
  refine ow_g (g_fa Try.underlying28 rfl ty3 (by decide) rfl) rfl ?_
  refine ow_d0 (d_st ty3 rfl rfl rfl hb4 rfl) ?_
  rintro _ w7 ⟨hb5, k7, z5⟩
  have z_k7 := k7.size
  replace hb1 := hb1.keep k7 (fun hm => by have h2 := List.mem_singleton.1 hm; omega)
  replace rq2 := rq2.keepB k7 (by omega)
  replace hB := hB.new k7 (fun x hx => .inl (by have h2 := List.mem_singleton.1 hx; omega))
  refine ow_g (g_fa Try.underlying28 rfl ty22 (by decide) rfl) rfl ?_
  refine ow_d0 (d_st ty22 rfl rfl rfl hb5 rfl) ?_
  rintro _ w8 ⟨hb6, k8, z6⟩
  have z_k8 := k8.size
  replace hb1 := hb1.keep k8 (fun hm => by have h2 := List.mem_singleton.1 hm; omega)
  replace rq2 := rq2.keepB k8 (by omega)
  replace hB := hB.new k8 (fun x hx => .inl (by have h2 := List.mem_singleton.1 hx; omega))
  refine ow_nil ?_
  refine tw_seq ?_
  refine tw_drawnT 4 mixed [(7, _), (5, _), (2, _), (0, _), (3, _), (4, _), (8, _), (9, _), (10, _), (11, _), (6, _), (12, _), (13, _), (14, _), (15, _), (16, _), (17, _), (18, _), (19, _), (20, _), (21, _), (25, _), (26, _), (27, _), (28, _), (29, _), (30, _), (31, _), (32, _), (33, _)] (fun i v W => match i with | 0 => v = .agg [.slice none 0 0, .int .i64 0, .int .i64 0, .int .i64 0, .slice none 0 0, .int .i64 0, .slice none 0 0].toArray | 1 => v = .pointer (some ⟨p1, 0, none⟩) | 2 => v = .slice none 0 0 | 3 => v = .agg [.slice none 0 0, .int .i64 0, .int .i64 0, .int .i64 0, .slice none 0 0, .int .i64 0, .slice none 0 0, .int .i64 1, .slice none 0 0, .slice none 0 0].toArray | _ => True) ⟨rfl, rfl, rfl, rfl, rfl, rfl, rfl, rfl, rfl, rfl, rfl, rfl, rfl, rfl, rfl, rfl, rfl, rfl, rfl, rfl, rfl, rfl, rfl, rfl, rfl, rfl, rfl, rfl, rfl, rfl, trivial⟩ (by decide) (by decide) rfl ?_ ?_ ?_
  · intro i v W W' h k
    match i, h with
    | 0, h => exact h
    | 1, h => exact h
    | 2, h => exact h
    | 3, h => exact h
    | _ + 4, _ => trivial
  · refine ⟨?_, ?_, ?_, ?_, trivial⟩
    · refine ⟨[], rfl, ?_⟩; rintro W1 hk vs hd
      replace hb1 := hb1.keep0 hk
      replace rq2 := rq2.keep0 hk
      replace hb6 := hb6.keep0 hk
      replace hB := hB.trans hk
      refine ⟨true, fun a _ => rfl, fun _ => ?_, fun h => by cases h⟩
      refine does_sub [(7, _)] ⟨rfl, trivial⟩ ?_
      refine (Gives.does (g_ldab (cs' := [_, _, _, _, _, _, _]) ag28 ty28 rfl (by assumption) rfl rfl)).mono ?_
      rintro v W2 ⟨rfl, rfl⟩
      exact ⟨Keep.refl _ _, rfl⟩
    · refine ⟨[], rfl, ?_⟩; rintro W1 hk vs hd
      replace hb1 := hb1.keep0 hk
      replace rq2 := rq2.keep0 hk
      replace hb6 := hb6.keep0 hk
      replace hB := hB.trans hk
      refine ⟨true, fun a _ => rfl, fun _ => ?_, fun h => by cases h⟩
      refine does_sub [(5, _)] ⟨rfl, trivial⟩ ?_
      refine (Gives.does (g_mv rfl)).mono ?_
      rintro v W2 ⟨rfl, rfl⟩
      exact ⟨Keep.refl _ _, rfl⟩
    · refine ⟨[1], rfl, ?_⟩; rintro W1 hk vs hd
      have d1 : (vs 1) = .pointer (some ⟨p1, 0, none⟩) := hd 1 (by decide)
      replace hb1 := hb1.keep0 hk
      replace rq2 := rq2.keep0 hk
      replace hb6 := hb6.keep0 hk
      replace hB := hB.trans hk
      refine ⟨true, fun a _ => rfl, fun _ => ?_, fun h => by cases h⟩
      refine does_sub [(35, .pointer (some ⟨p1, 0, none⟩))] ⟨congrArg some d1, trivial⟩ ?_
      refine (d_call (vs := [_]) rfl (vector_err _ _ _ _ (by assumption) (by decide))).mono ?_
      rintro v W2 ⟨rfl, rfl⟩; exact ⟨Keep.refl _ _, rfl⟩
    · refine ⟨[0, 2], rfl, ?_⟩; rintro W1 hk vs hd
      have d0 : (vs 0) = .agg [.slice none 0 0, .int .i64 0, .int .i64 0, .int .i64 0, .slice none 0 0, .int .i64 0, .slice none 0 0].toArray := hd 0 (by decide)
      have d2 : (vs 2) = .slice none 0 0 := hd 2 (by decide)
      replace hb1 := hb1.keep0 hk
      replace rq2 := rq2.keep0 hk
      replace hb6 := hb6.keep0 hk
      replace hB := hB.trans hk
      refine ⟨true, fun a _ => rfl, fun _ => ?_, fun h => by cases h⟩
      refine does_sub [(34, .agg [.slice none 0 0, .int .i64 0, .int .i64 0, .int .i64 0, .slice none 0 0, .int .i64 0, .slice none 0 0].toArray), (36, .slice none 0 0)] ⟨congrArg some d0, congrArg some d2, trivial⟩ ?_
      refine (Gives.does (g_bld (idx := [0, 1, 2]) (xs := [.tmp 34, .const (.int .i64 (1)), .tmp 36]) (vs := [_, _, _]) (css := [[_, _, _, _, _, _, _], [_], [_]]) (out := [_, _, _, _, _, _, _, _, _, _]) pl105 ty105 rfl rfl ⟨rfl, rfl, rfl, trivial⟩ rfl rfl)).mono ?_
      rintro v W2 ⟨rfl, rfl⟩
      exact ⟨Keep.refl _ _, rfl⟩
  rintro w9 k9 vs hv
  have z_k9 := k9.size
  replace hb1 := hb1.keep0 k9
  replace rq2 := rq2.keep0 k9
  replace hb6 := hb6.keep0 k9
  replace hB := hB.trans k9
  have e37 : (vs 3) = .agg [.slice none 0 0, .int .i64 0, .int .i64 0, .int .i64 0, .slice none 0 0, .int .i64 0, .slice none 0 0, .int .i64 1, .slice none 0 0, .slice none 0 0].toArray := hv 3 (by decide) rfl
  refine ow_keep [(37, .agg [.slice none 0 0, .int .i64 0, .int .i64 0, .int .i64 0, .slice none 0 0, .int .i64 0, .slice none 0 0, .int .i64 1, .slice none 0 0, .slice none 0 0].toArray), (7, _), (5, _), (2, _), (0, _), (3, _), (4, _), (8, _), (9, _), (10, _), (11, _), (6, _), (12, _), (13, _), (14, _), (15, _), (16, _), (17, _), (18, _), (19, _), (20, _), (21, _), (25, _), (26, _), (27, _), (28, _), (29, _), (30, _), (31, _), (32, _), (33, _)] ⟨congrArg some e37, rfl, rfl, rfl, rfl, rfl, rfl, rfl, rfl, rfl, rfl, rfl, rfl, rfl, rfl, rfl, rfl, rfl, rfl, rfl, rfl, rfl, rfl, rfl, rfl, rfl, rfl, rfl, rfl, rfl, rfl, trivial⟩ ?_
  refine ow_d0 (d_sta ty105 rfl rfl rfl (by simp only [List.forall_mem_cons]; refine ⟨(by first | rfl | exact Rd.one (by first | assumption | exact Own.rd (by assumption) | exact Rd.keep0 (by assumption) hB | exact Own.rd (Own.keep0 (by assumption) hB))), (by first | rfl | exact Rd.one (by first | assumption | exact Own.rd (by assumption) | exact Rd.keep0 (by assumption) hB | exact Own.rd (Own.keep0 (by assumption) hB))), (by first | rfl | exact Rd.one (by first | assumption | exact Own.rd (by assumption) | exact Rd.keep0 (by assumption) hB | exact Own.rd (Own.keep0 (by assumption) hB))), (by first | rfl | exact Rd.one (by first | assumption | exact Own.rd (by assumption) | exact Rd.keep0 (by assumption) hB | exact Own.rd (Own.keep0 (by assumption) hB))), (by first | rfl | exact Rd.one (by first | assumption | exact Own.rd (by assumption) | exact Rd.keep0 (by assumption) hB | exact Own.rd (Own.keep0 (by assumption) hB))), (by first | rfl | exact Rd.one (by first | assumption | exact Own.rd (by assumption) | exact Rd.keep0 (by assumption) hB | exact Own.rd (Own.keep0 (by assumption) hB))), (by first | rfl | exact Rd.one (by first | assumption | exact Own.rd (by assumption) | exact Rd.keep0 (by assumption) hB | exact Own.rd (Own.keep0 (by assumption) hB))), (by first | rfl | exact Rd.one (by first | assumption | exact Own.rd (by assumption) | exact Rd.keep0 (by assumption) hB | exact Own.rd (Own.keep0 (by assumption) hB))), (by first | rfl | exact Rd.one (by first | assumption | exact Own.rd (by assumption) | exact Rd.keep0 (by assumption) hB | exact Own.rd (Own.keep0 (by assumption) hB))), (by first | rfl | exact Rd.one (by first | assumption | exact Own.rd (by assumption) | exact Rd.keep0 (by assumption) hB | exact Own.rd (Own.keep0 (by assumption) hB))), fun v hv => by cases hv⟩) hb1 rfl) ?_
  rintro _ w10 ⟨hb7, k10, z7⟩
  have z_k10 := k10.size
  replace rq2 := rq2.keepB k10 (by omega)
  replace hb6 := hb6.keep k10 (fun hm => by have h2 := List.mem_singleton.1 hm; omega)
  replace hB := hB.new k10 (fun x hx => .inl (by have h2 := List.mem_singleton.1 hx; omega))
  refine ow_nil ?_
  refine tw_seq ?_
  refine tw_seq ?_
  refine tw_region ?_
  refine ow_g (g_fa Try.underlying28 rfl ty3 (by decide) rfl) rfl ?_
  refine ow_g (g_ldb sc3 rfl (by assumption) rfl) rfl ?_
  refine ow_g (g_eq rfl rfl) rfl ?_
  refine ow_nil ?_
  refine tw_ifF rfl (by decide) ?_
  refine tw_skip ?_
  refine tw_seq ?_
  refine tw_seq ?_
  refine tw_region ?_
  refine ow_g (g_fa Try.underlying28 rfl ty3 (by decide) rfl) rfl ?_
  refine ow_g (g_ldb sc3 rfl (by assumption) rfl) rfl ?_
  refine ow_g (g_eq rfl rfl) rfl ?_
  refine ow_nil ?_
  refine tw_ifF rfl (by decide) ?_
  refine tw_skip ?_
  refine tw_seq ?_
  refine tw_seq ?_
  refine tw_region ?_
  refine ow_g (g_mv rfl) rfl ?_
  refine ow_g (g_eq rfl rfl) rfl ?_
  refine ow_g (g_mv rfl) rfl ?_
  refine ow_grp 54 true rfl (fun c1 hgc1 => ?_)
  refine ow_gg (v := .pointer none) [] (grd1 rfl rfl rfl hgc1) trivial (fun hw => absurd hw (by rw [hgc1]; decide)) rfl ?_
  refine ow_gg (v := .int .i64 0) [] (grd1 rfl rfl rfl hgc1) trivial (fun hw => absurd hw (by rw [hgc1]; decide)) rfl ?_
  refine ow_gg (v := .bool false) [] (grd1 rfl rfl rfl hgc1) trivial (fun hw => absurd hw (by rw [hgc1]; decide)) rfl ?_
  refine ow_g (g_pand rfl rfl hgc1) rfl ?_
  refine ow_g (g_mv rfl) rfl ?_
  refine ow_grp 59 true rfl (fun c2 hgc2 => ?_)
  refine ow_gg (v := .pointer none) [] (grd1 rfl rfl rfl hgc2) trivial (fun hw => absurd hw (by rw [hgc2]; decide)) rfl ?_
  refine ow_gg (v := .bool false) [] (grd1 rfl rfl rfl hgc2) trivial (fun hw => absurd hw (by rw [hgc2]; decide)) rfl ?_
  refine ow_g (g_pand rfl rfl hgc2) rfl ?_
  refine ow_nil ?_
  refine tw_condF rfl (by decide) ?_
  refine tw_skip ?_
  refine tw_seq ?_
  refine tw_label ?_
  refine tw_seq ?_
  refine tw_region ?_
  refine ow_g (g_bld (idx := []) (xs := []) (vs := []) (css := []) (out := [_, _, _, _, _, _, _, _, _, _]) pl105 ty105 rfl rfl trivial rfl rfl) rfl ?_
  refine ow_d0 (d_sta ty105 rfl rfl rfl (by simp only [List.forall_mem_cons]; refine ⟨(by first | rfl | exact Rd.one (by first | assumption | exact Own.rd (by assumption) | exact Rd.keep0 (by assumption) hB | exact Own.rd (Own.keep0 (by assumption) hB))), (by first | rfl | exact Rd.one (by first | assumption | exact Own.rd (by assumption) | exact Rd.keep0 (by assumption) hB | exact Own.rd (Own.keep0 (by assumption) hB))), (by first | rfl | exact Rd.one (by first | assumption | exact Own.rd (by assumption) | exact Rd.keep0 (by assumption) hB | exact Own.rd (Own.keep0 (by assumption) hB))), (by first | rfl | exact Rd.one (by first | assumption | exact Own.rd (by assumption) | exact Rd.keep0 (by assumption) hB | exact Own.rd (Own.keep0 (by assumption) hB))), (by first | rfl | exact Rd.one (by first | assumption | exact Own.rd (by assumption) | exact Rd.keep0 (by assumption) hB | exact Own.rd (Own.keep0 (by assumption) hB))), (by first | rfl | exact Rd.one (by first | assumption | exact Own.rd (by assumption) | exact Rd.keep0 (by assumption) hB | exact Own.rd (Own.keep0 (by assumption) hB))), (by first | rfl | exact Rd.one (by first | assumption | exact Own.rd (by assumption) | exact Rd.keep0 (by assumption) hB | exact Own.rd (Own.keep0 (by assumption) hB))), (by first | rfl | exact Rd.one (by first | assumption | exact Own.rd (by assumption) | exact Rd.keep0 (by assumption) hB | exact Own.rd (Own.keep0 (by assumption) hB))), (by first | rfl | exact Rd.one (by first | assumption | exact Own.rd (by assumption) | exact Rd.keep0 (by assumption) hB | exact Own.rd (Own.keep0 (by assumption) hB))), (by first | rfl | exact Rd.one (by first | assumption | exact Own.rd (by assumption) | exact Rd.keep0 (by assumption) hB | exact Own.rd (Own.keep0 (by assumption) hB))), fun v hv => by cases hv⟩) hb7 rfl) ?_
  rintro _ w11 ⟨hb8, k11, z8⟩
  have z_k11 := k11.size
  replace rq2 := rq2.keepB k11 (by omega)
  replace hb6 := hb6.keep k11 (fun hm => by have h2 := List.mem_singleton.1 hm; omega)
  replace hB := hB.new k11 (fun x hx => .inl (by have h2 := List.mem_singleton.1 hx; omega))
  refine ow_g (g_as rfl) rfl ?_
  refine ow_g (g_as rfl) rfl ?_
  refine ow_nil ?_
  refine tw_retctt hfin Try.results46 rfl (run_loadAgg ag105 ty105 (by assumption) rfl) rfl rfl ?_
  exact ⟨rfl, hB⟩

def knB : List UInt8 := putB [] 0 1 0 [] 1 []
theorem knB_len : knB.length = 17 := by decide
theorem put_known (w : World) : Rets Try.prog 8 [.agg [.slice none 0 0, .int .i64 0, .int .i64 1, .int .i64 0, .slice none 0 0, .int .i64 1, .slice none 0 0].toArray] w (fun v w' => ∃ u, v = .tuple #[u, .int .i64 0] ∧ OwnB w' w.heap.size u knB ∧ Keep [] w w') :=
  (put_content_any _ _ _ [] [] [] 0 1 0 1 w (Rd.nil _ _) (Rd.nil _ _) (Rd.nil _ _)).mono fun v w' ⟨u, h1, h2, h3⟩ => ⟨u, by rw [h1, show putE [] 0 1 0 [] 1 [] = 0 from by decide], h2, h3⟩
set_option maxRecDepth 100000 in
theorem knows_any (w : World) : Rets Try.prog 11 [] w (fun v w' => v = .bool true ∧ Keep [] w w') := by
  have hB : Keep [] w w := Keep.refl _ _
  have hkn := knB_len
  refine rets_of_tw Try.func11 rfl (by decide) Try.ntmps11 rfl (fun fin _ hfin => ?_)
  refine tw_seq ?_
  refine tw_region ?_
  refine ow_g (g_as rfl) rfl ?_
  refine ow_nil ?_
  refine tw_seq ?_
  refine tw_region ?_
  refine ow_g (g_bld (idx := [2, 5]) (xs := [.const (.int .i64 (1)), .const (.int .i64 (1))]) (vs := [_, _]) (css := [[_], [_]]) (out := [_, _, _, _, _, _, _]) pl28 ty28 rfl rfl ⟨rfl, rfl, trivial⟩ rfl rfl) rfl ?_
  refine ow_d (d_call (vs := [_]) rfl (put_known _)) rfl ?_
  rintro _ w1 ⟨v1, rfl, o1, k1⟩
  have z_k1 := k1.size
  replace hB := hB.trans k1
  have u_o1 := o1.blk
  refine ow_g (g_mv rfl) rfl ?_
  refine ow_g (g_ext (vs := [_, _]) rfl rfl) rfl ?_
  refine ow_g (g_ext (vs := [_, _]) rfl rfl) rfl ?_
  refine ow_g (g_as rfl) rfl ?_
  refine ow_g (g_as rfl) rfl ?_
  refine ow_nil ?_
  refine tw_seq ?_
  refine tw_region ?_
  refine ow_d (d_call (vs := [_]) rfl (get_public_nil _)) rfl ?_
  rintro _ w2 ⟨rfl, k2⟩
  have z_k2 := k2.size
  replace o1 := o1.keep0 k2
  replace hB := hB.trans k2
  refine ow_g (g_mv rfl) rfl ?_
  refine ow_g (g_ext (vs := [_, _, _]) rfl rfl) rfl ?_
  refine ow_g (g_ext (vs := [_, _, _]) rfl rfl) rfl ?_
  refine ow_g (g_ext (vs := [_, _, _]) rfl rfl) rfl ?_
  refine ow_d (d_alloc ty105) rfl ?_
  rintro _ w3 ⟨b1, rfl, eb1, hb1, k3, z1⟩
  have z_k3 := k3.size
  replace o1 := o1.keep0 k3
  replace hB := hB.trans k3
  refine ow_d0 (d_sta ty105 rfl rfl rfl (by simp only [List.forall_mem_cons]; refine ⟨(by first | rfl | exact Rd.one (by first | assumption | exact Own.rd (by assumption) | exact Rd.keep0 (by assumption) hB | exact Own.rd (Own.keep0 (by assumption) hB))), (by first | rfl | exact Rd.one (by first | assumption | exact Own.rd (by assumption) | exact Rd.keep0 (by assumption) hB | exact Own.rd (Own.keep0 (by assumption) hB))), (by first | rfl | exact Rd.one (by first | assumption | exact Own.rd (by assumption) | exact Rd.keep0 (by assumption) hB | exact Own.rd (Own.keep0 (by assumption) hB))), (by first | rfl | exact Rd.one (by first | assumption | exact Own.rd (by assumption) | exact Rd.keep0 (by assumption) hB | exact Own.rd (Own.keep0 (by assumption) hB))), (by first | rfl | exact Rd.one (by first | assumption | exact Own.rd (by assumption) | exact Rd.keep0 (by assumption) hB | exact Own.rd (Own.keep0 (by assumption) hB))), (by first | rfl | exact Rd.one (by first | assumption | exact Own.rd (by assumption) | exact Rd.keep0 (by assumption) hB | exact Own.rd (Own.keep0 (by assumption) hB))), (by first | rfl | exact Rd.one (by first | assumption | exact Own.rd (by assumption) | exact Rd.keep0 (by assumption) hB | exact Own.rd (Own.keep0 (by assumption) hB))), (by first | rfl | exact Rd.one (by first | assumption | exact Own.rd (by assumption) | exact Rd.keep0 (by assumption) hB | exact Own.rd (Own.keep0 (by assumption) hB))), (by first | rfl | exact Rd.one (by first | assumption | exact Own.rd (by assumption) | exact Rd.keep0 (by assumption) hB | exact Own.rd (Own.keep0 (by assumption) hB))), (by first | rfl | exact Rd.one (by first | assumption | exact Own.rd (by assumption) | exact Rd.keep0 (by assumption) hB | exact Own.rd (Own.keep0 (by assumption) hB))), fun v hv => by cases hv⟩) hb1 rfl) ?_
  rintro _ w4 ⟨hb2, k4, z2⟩
  have z_k4 := k4.size
  replace o1 := o1.keep k4 (fun x hx hm => by have h1 := u_o1 x hx; have h2 := List.mem_singleton.1 hm; omega)
  replace hB := hB.new k4 (fun x hx => .inl (by have h2 := List.mem_singleton.1 hx; omega))
  refine ow_g (g_as rfl) rfl ?_
  refine ow_g (g_as rfl) rfl ?_
  refine ow_nil ?_
  refine tw_seq ?_
  refine tw_region ?_
  refine ow_g (g_mv rfl) rfl ?_
  refine ow_d (d_call (vs := [_]) rfl (num_any _ _)) rfl ?_
  rintro _ _ ⟨rfl, rfl⟩
  refine ow_g (g_eq rfl rfl) rfl ?_
  refine ow_g (g_mv rfl) rfl ?_
  refine ow_grp 19 true rfl (fun c1 hgc1 => ?_)
  refine ow_gg [(1, _)] (grd1 rfl rfl rfl hgc1) ⟨und0 rfl, trivial⟩ (fun hw1 => g_mv rfl) rfl ?_
  refine ow_gg [(20, _)] (grd1 rfl rfl rfl hgc1) ⟨und1 rfl, trivial⟩ (fun hw2 => g_len Try.underlying22 rfl (by first | assumption | exact Own.rd (by assumption) | exact Rd.keep0 (by assumption) hB | exact Own.rd (Own.keep0 (by assumption) hB))) rfl ?_
  refine ow_gg [(21, _)] (grd1 rfl rfl rfl hgc1) ⟨und1 rfl, trivial⟩ (fun hw3 => g_eq rfl rfl) rfl ?_
  refine ow_g (g_pand rfl rfl hgc1) rfl ?_
  refine ow_g (g_mv rfl) rfl ?_
  refine ow_grp 24 true rfl (fun c2 hgc2 => ?_)
  refine ow_gg [(1, _)] (grd1 rfl rfl rfl hgc2) ⟨und0 rfl, trivial⟩ (fun hw4 => g_mv rfl) rfl ?_
  refine ow_gg [(25, _)] (grd1 rfl rfl rfl hgc2) ⟨und1 rfl, trivial⟩ (fun hw5 => g_ix Try.underlying22 ty5 rfl (by first | assumption | exact Own.rd (by assumption) | exact Rd.keep0 (by assumption) hB | exact Own.rd (Own.keep0 (by assumption) hB)) rfl (by omega)) rfl ?_
  refine ow_gg [(26, _)] (grd1 rfl rfl rfl hgc2) ⟨und1 rfl, trivial⟩ (fun hw6 => g_ldB sc5 rfl (by first | assumption | exact Own.rd (by assumption) | exact Rd.keep0 (by assumption) hB | exact Own.rd (Own.keep0 (by assumption) hB)) (by omega)) rfl ?_
  refine ow_gg [(27, _)] (grd1 rfl rfl rfl hgc2) ⟨und1 rfl, trivial⟩ (fun hw7 => g_eq rfl rfl) rfl ?_
  refine ow_g (g_pand rfl rfl hgc2) rfl ?_
  refine ow_g (g_mv rfl) rfl ?_
  refine ow_grp 30 true rfl (fun c3 hgc3 => ?_)
  refine ow_gg [(5, _)] (grd1 rfl rfl rfl hgc3) ⟨und0 rfl, trivial⟩ (fun hw8 => g_mv rfl) rfl ?_
  refine ow_gds [(31, _)] (grd1 rfl rfl rfl hgc3) ⟨und1 rfl, trivial⟩ (fun hw9 => d_call (vs := [_]) rfl (num_any _ _)) rfl ?_
  refine ow_gg [(32, _)] (grd1 rfl rfl rfl hgc3) ⟨und1 rfl, trivial⟩ (fun hw10 => g_eq rfl rfl) rfl ?_
  refine ow_g (g_pand rfl rfl hgc3) rfl ?_
  refine ow_g (g_as rfl) rfl ?_
  refine ow_nil ?_
  refine tw_ret1 hfin Try.results11 rfl ?_
  refine ⟨?_, hB⟩
  congr 1

theorem numB_in {b n s : Int} (hb : 0 ≤ b) (h0 : 0 ≤ n) (h1 : n / 2 ^ b.toNat = 0) : numB b n s = be n s.toNat := by
  have e : numE b n = 0 := by unfold numE; rw [if_neg (by omega), if_neg (by omega)]
  unfold numB; rw [if_pos e]
theorem cBytes_right {gs : List UInt8} {ep fr lf : Int} {ms : List UInt8} {kd : Int} {bs : List UInt8} (h : rightB gs ep fr lf ms kd bs = true) :
    cBytes gs ep fr lf ms kd bs = vec gs ++ (be ep 8 ++ (be fr 1 ++ ((if fr = 1 then be lf 4 else []) ++ (vec ms ++ (be kd 1 ++ (vec bs ++ [])))))) := by
  have hl := rightB_len h
  simp only [rightB, comB, Bool.and_eq_true, Bool.or_eq_true, decide_eq_true_eq] at h
  have e8 : bitsOf 8 = 62 := rfl
  have e4 : bitsOf 4 = 32 := rfl
  have e1 : bitsOf 1 = 8 := rfl
  have p62 : (2 : Int) ^ (62 : Int).toNat = 4611686018427387904 := rfl
  have p32 : (2 : Int) ^ (32 : Int).toNat = 4294967296 := rfl
  have p8 : (2 : Int) ^ (8 : Int).toNat = 256 := rfl
  have hlf : (if fr = 1 then numB (bitsOf 4) lf 4 else []) = (if fr = 1 then be lf 4 else []) := by
    by_cases hf : fr = 1
    · rw [if_pos hf, if_pos hf, numB_in (by rw [e4]; decide) (by omega) (by rw [e4, p32]; omega)]; rfl
    · rw [if_neg hf, if_neg hf]
  unfold cBytes
  rw [vecsB1 hl.1, vecsB1 hl.2.1, vecsB1 hl.2.2, hlf, numB_in (n := ep) (by rw [e8]; decide) (by omega) (by rw [e8, p62]; omega), numB_in (n := fr) (by rw [e1]; decide) (by omega) (by rw [e1, p8]; omega),
    numB_in (n := kd) (by rw [e1]; decide) (by omega) (by rw [e1, p8]; omega)]
  simp only [List.flatten_cons, List.flatten_nil]; rfl
theorem same_law {gs : List UInt8} {ep fr lf : Int} {ms : List UInt8} {kd : Int} {bs gs2 : List UInt8} {ep2 fr2 lf2 : Int} {ms2 : List UInt8} {kd2 : Int} {bs2 : List UInt8} (h : rightB gs ep fr lf ms kd bs = true) (h2 : rightB gs2 ep2 fr2 lf2 ms2 kd2 bs2 = true) :
    (decide (cBytes gs ep fr lf ms kd bs = cBytes gs2 ep2 fr2 lf2 ms2 kd2 bs2) == sameB gs ep fr lf ms kd bs gs2 ep2 fr2 lf2 ms2 kd2 bs2) = true := by
  have key : cBytes gs ep fr lf ms kd bs = cBytes gs2 ep2 fr2 lf2 ms2 kd2 bs2 ↔ sameB gs ep fr lf ms kd bs gs2 ep2 fr2 lf2 ms2 kd2 bs2 = true := by
    constructor
    · intro e
      rw [cBytes_right h, cBytes_right h2] at e
      have hl := rightB_len h; have hl2 := rightB_len h2
      simp only [rightB, comB, Bool.and_eq_true, Bool.or_eq_true, decide_eq_true_eq] at h h2
      have p8 : (256 : Int) ^ 8 = 18446744073709551616 := rfl
      have p4 : (256 : Int) ^ 4 = 4294967296 := rfl
      have p1 : (256 : Int) ^ 1 = 256 := rfl
      obtain ⟨i1, e⟩ := vec_app e hl.1 hl2.1
      obtain ⟨i2, e⟩ := be_app e (by omega) (by omega) (by omega) (by omega)
      obtain ⟨i3, e⟩ := be_app e (by omega) (by omega) (by omega) (by omega)
      subst i3
      have i4 : lf = lf2 ∧ vec ms ++ (be kd 1 ++ (vec bs ++ [])) = vec ms2 ++ (be kd2 1 ++ (vec bs2 ++ [])) := by
        by_cases hf : fr = 1
        · rw [if_pos hf, if_pos hf] at e
          exact be_app e (by omega) (by omega) (by omega) (by omega)
        · rw [if_neg hf, if_neg hf] at e
          exact ⟨by omega, e⟩
      obtain ⟨i4, e⟩ := i4
      obtain ⟨i5, e⟩ := vec_app e hl.2.1 hl2.2.1
      obtain ⟨i6, e⟩ := be_app e (by omega) (by omega) (by omega) (by omega)
      obtain ⟨i7, e⟩ := vec_app e hl.2.2 hl2.2.2
      subst i1 i2 i4 i5 i6 i7
      simp [sameB]
    · intro hs
      simp only [sameB, Bool.and_eq_true, decide_eq_true_eq] at hs
      obtain ⟨⟨⟨⟨⟨⟨rfl, rfl⟩, rfl⟩, rfl⟩, rfl⟩, rfl⟩, rfl⟩ := hs
      rfl
  cases hb : sameB gs ep fr lf ms kd bs gs2 ep2 fr2 lf2 ms2 kd2 bs2 with
  | true => rw [decide_eq_true (key.2 hb)]; rfl
  | false => rw [decide_eq_false (fun e => by rw [key.1 e] at hb; cases hb)]; rfl
theorem putE_right {gs : List UInt8} {ep fr lf : Int} {ms : List UInt8} {kd : Int} {bs : List UInt8} (h : putE gs ep fr lf ms kd bs = 0) : rightB gs ep fr lf ms kd bs = true := by
  unfold putE at h
  cases hr : rightB gs ep fr lf ms kd bs with
  | true => rfl
  | false => rw [hr] at h; cases h
theorem putB_right {gs : List UInt8} {ep fr lf : Int} {ms : List UInt8} {kd : Int} {bs : List UInt8} (h : rightB gs ep fr lf ms kd bs = true) : putB gs ep fr lf ms kd bs = cBytes gs ep fr lf ms kd bs := by
  unfold putB; rw [h]; rfl
set_option maxRecDepth 100000 in
theorem framing_apart_any (g m b : Value) (gs ms bs : List UInt8) (ep fr lf kd : Int) (w : World) (hg : RdB w g gs) (hm : RdB w m ms) (hb : RdB w b bs) (gz mz bz : Value) (gs2 ms2 bs2 : List UInt8) (ep2 fr2 lf2 kd2 : Int) (hgz : RdB w gz gs2) (hmz : RdB w mz ms2) (hbz : RdB w bz bs2) (sg : gs.length ≤ 140737488355328) (sm : ms.length ≤ 140737488355328) (sb : bs.length ≤ 140737488355328) (sg2 : gs2.length ≤ 140737488355328) (sm2 : ms2.length ≤ 140737488355328) (sb2 : bs2.length ≤ 140737488355328) : Rets Try.prog 3 [.agg [g, .int .i64 ep, .int .i64 fr, .int .i64 lf, m, .int .i64 kd, b].toArray, .agg [gz, .int .i64 ep2, .int .i64 fr2, .int .i64 lf2, mz, .int .i64 kd2, bz].toArray] w (fun v w' => v = .bool true ∧ Keep [] w w') := by
  have hB : Keep [] w w := Keep.refl _ _
  refine rets_of_tw Try.func3 rfl (by decide) Try.ntmps3 rfl (fun fin _ hfin => ?_)
  refine tw_seq ?_
  refine tw_region ?_
  refine ow_d (d_box (cs := [_, _, _, _, _, _, _]) rfl rfl) rfl ?_
  rintro _ w1 ⟨b1, rfl, eb1, hb1, k1, z1⟩
  have z_k1 := k1.size
  replace hB := hB.trans k1
  refine ow_d (d_box (cs := [_, _, _, _, _, _, _]) rfl rfl) rfl ?_
  rintro _ w2 ⟨b2, rfl, eb2, hb2, k2, z2⟩
  have z_k2 := k2.size
  replace hb1 := hb1.keep0 k2
  replace hB := hB.trans k2
  refine ow_g (g_as rfl) rfl ?_
  refine ow_nil ?_
  refine tw_seq ?_
  refine tw_region ?_
  refine ow_g (g_ldab (cs' := [_, _, _, _, _, _, _]) ag24 ty24 rfl (by assumption) rfl rfl) rfl ?_
  refine ow_d (d_call (vs := [_]) rfl (content_any _ _ _ _ _ _ _ _ _ _ _ (hg.keep0 hB) (hm.keep0 hB) (hb.keep0 hB) sg sm sb)) rfl ?_
  rintro _ w3 ⟨g1, m1, b3, rfl, og1, om1, ob1, k3⟩
  have z_k3 := k3.size
  replace hb1 := hb1.keep0 k3
  replace hb2 := hb2.keep0 k3
  replace hB := hB.trans k3
  have u_og1 := og1.blk
  have u_om1 := om1.blk
  have u_ob1 := ob1.blk
  refine ow_d (d_call (vs := [_]) rfl (put_content_any _ _ _ gs ms bs _ _ _ _ _ (by first | assumption | exact Own.rd (by assumption) | exact Rd.keep0 (by assumption) hB | exact Own.rd (Own.keep0 (by assumption) hB)) (by first | assumption | exact Own.rd (by assumption) | exact Rd.keep0 (by assumption) hB | exact Own.rd (Own.keep0 (by assumption) hB)) (by first | assumption | exact Own.rd (by assumption) | exact Rd.keep0 (by assumption) hB | exact Own.rd (Own.keep0 (by assumption) hB)))) rfl ?_
  rintro _ w4 ⟨v1, rfl, o1, k4⟩
  have z_k4 := k4.size
  replace hb1 := hb1.keep0 k4
  replace hb2 := hb2.keep0 k4
  replace og1 := og1.keep0 k4
  replace om1 := om1.keep0 k4
  replace ob1 := ob1.keep0 k4
  replace hB := hB.trans k4
  have u_o1 := o1.blk
  refine ow_g (g_mv rfl) rfl ?_
  refine ow_g (g_ext (vs := [_, _]) rfl rfl) rfl ?_
  refine ow_g (g_ext (vs := [_, _]) rfl rfl) rfl ?_
  refine ow_g (g_as rfl) rfl ?_
  refine ow_g (g_as rfl) rfl ?_
  refine ow_nil ?_
  refine tw_seq ?_
  refine tw_region ?_
  refine ow_g (g_ldab (cs' := [_, _, _, _, _, _, _]) ag24 ty24 rfl (by assumption) rfl rfl) rfl ?_
  refine ow_d (d_call (vs := [_]) rfl (content_any _ _ _ _ _ _ _ _ _ _ _ (hgz.keep0 hB) (hmz.keep0 hB) (hbz.keep0 hB) sg2 sm2 sb2)) rfl ?_
  rintro _ w5 ⟨g2, m2, b4, rfl, og2, om2, ob2, k5⟩
  have z_k5 := k5.size
  replace hb1 := hb1.keep0 k5
  replace hb2 := hb2.keep0 k5
  replace og1 := og1.keep0 k5
  replace om1 := om1.keep0 k5
  replace ob1 := ob1.keep0 k5
  replace o1 := o1.keep0 k5
  replace hB := hB.trans k5
  have u_og2 := og2.blk
  have u_om2 := om2.blk
  have u_ob2 := ob2.blk
  refine ow_d (d_call (vs := [_]) rfl (put_content_any _ _ _ gs2 ms2 bs2 _ _ _ _ _ (by first | assumption | exact Own.rd (by assumption) | exact Rd.keep0 (by assumption) hB | exact Own.rd (Own.keep0 (by assumption) hB)) (by first | assumption | exact Own.rd (by assumption) | exact Rd.keep0 (by assumption) hB | exact Own.rd (Own.keep0 (by assumption) hB)) (by first | assumption | exact Own.rd (by assumption) | exact Rd.keep0 (by assumption) hB | exact Own.rd (Own.keep0 (by assumption) hB)))) rfl ?_
  rintro _ w6 ⟨v2, rfl, o2, k6⟩
  have z_k6 := k6.size
  replace hb1 := hb1.keep0 k6
  replace hb2 := hb2.keep0 k6
  replace og1 := og1.keep0 k6
  replace om1 := om1.keep0 k6
  replace ob1 := ob1.keep0 k6
  replace o1 := o1.keep0 k6
  replace og2 := og2.keep0 k6
  replace om2 := om2.keep0 k6
  replace ob2 := ob2.keep0 k6
  replace hB := hB.trans k6
  have u_o2 := o2.blk
  refine ow_g (g_mv rfl) rfl ?_
  refine ow_g (g_ext (vs := [_, _]) rfl rfl) rfl ?_
  refine ow_g (g_ext (vs := [_, _]) rfl rfl) rfl ?_
  refine ow_g (g_as rfl) rfl ?_
  refine ow_g (g_as rfl) rfl ?_
  refine ow_nil ?_
  refine tw_seq ?_
  refine tw_seq ?_
  refine tw_region ?_
  refine ow_g (g_mv rfl) rfl ?_
  refine ow_d (d_call (vs := [_]) rfl (num_any _ _)) rfl ?_
  rintro _ _ ⟨rfl, rfl⟩
  refine ow_g (g_ne rfl rfl) rfl ?_
  refine ow_g (g_mv rfl) rfl ?_
  refine ow_grp 24 false rfl (fun c1 hgc1 => ?_)
  refine ow_gg [(8, _)] (grd1 rfl rfl rfl hgc1) ⟨und0 rfl, trivial⟩ (fun hw1 => g_mv rfl) rfl ?_
  refine ow_gds [(25, _)] (grd1 rfl rfl rfl hgc1) ⟨und1 rfl, trivial⟩ (fun hw2 => d_call (vs := [_]) rfl (num_any _ _)) rfl ?_
  refine ow_gg [(26, _)] (grd1 rfl rfl rfl hgc1) ⟨und1 rfl, trivial⟩ (fun hw3 => g_ne rfl rfl) rfl ?_
  refine ow_g (g_por rfl rfl hgc1) rfl ?_
  refine ow_nil ?_
  refine tw_cond rfl (fun hc1 => ?_) (fun hc1 => ?_)
  · -- yes
    have hd1 := hc1
    try (simp only [Bool.and_eq_true, Bool.or_eq_true, decide_eq_true_eq, Bool.and_eq_false_iff, Bool.or_eq_false_iff, decide_eq_false_iff_not, Bool.not_eq_true', Bool.not_eq_false', Bool.not_eq_true, Bool.not_eq_false, ne_eq, Decidable.not_not] at hd1)
    refine tw_seq ?_
    refine tw_region ?_
    refine ow_d (d_call (vs := []) rfl (knows_any _)) rfl ?_
    rintro _ w7 ⟨rfl, k7⟩
    have z_k7 := k7.size
    replace hb1 := hb1.keep0 k7
    replace hb2 := hb2.keep0 k7
    replace og1 := og1.keep0 k7
    replace om1 := om1.keep0 k7
    replace ob1 := ob1.keep0 k7
    replace o1 := o1.keep0 k7
    replace og2 := og2.keep0 k7
    replace om2 := om2.keep0 k7
    replace ob2 := ob2.keep0 k7
    replace o2 := o2.keep0 k7
    replace hB := hB.trans k7
    refine ow_g (g_as rfl) rfl ?_
    refine ow_nil ?_
    refine tw_ret1 hfin Try.results3 rfl ?_
    exact ⟨rfl, hB⟩
  · -- no
    have hd2 := hc1
    try (simp only [Bool.and_eq_true, Bool.or_eq_true, decide_eq_true_eq, Bool.and_eq_false_iff, Bool.or_eq_false_iff, decide_eq_false_iff_not, Bool.not_eq_true', Bool.not_eq_false', Bool.not_eq_true, Bool.not_eq_false, ne_eq, Decidable.not_not] at hd2)
    refine tw_skip ?_
    refine tw_seq ?_
    have hE : putE gs ep fr lf ms kd bs = 0 ∧ putE gs2 ep2 fr2 lf2 ms2 kd2 bs2 = 0 := by simpa using hc1
    have hr1 := putE_right hE.1; have hr2 := putE_right hE.2
    have hlaw := same_law hr1 hr2
    rw [← putB_right hr1, ← putB_right hr2] at hlaw
    refine tw_drawn mixed [(5, _), (7, _), (2, _), (3, _), (0, _), (1, _), (10, _), (11, _), (12, _), (9, _), (13, _), (14, _), (6, _), (16, _), (17, _), (18, _), (15, _), (19, _), (20, _), (8, _), (21, _), (22, _), (23, _), (24, _), (25, _), (26, _), (27, _), (28, _)] (fun i v W => match i with | 0 => v = v1 | 1 => v = .string (strOf (putB gs ep fr lf ms kd bs)) | 2 => v = v2 | 3 => v = .string (strOf (putB gs2 ep2 fr2 lf2 ms2 kd2 bs2)) | 4 => v = .bool (decide (putB gs ep fr lf ms kd bs = putB gs2 ep2 fr2 lf2 ms2 kd2 bs2)) | 5 => v = .agg [g, .int .i64 ep, .int .i64 fr, .int .i64 lf, m, .int .i64 kd, b].toArray | 6 => ∃ g' m' b', v = .agg [g', .int .i64 ep, .int .i64 fr, .int .i64 lf, m', .int .i64 kd, b'].toArray ∧ OwnB W w6.heap.size  g' gs ∧ OwnB W w6.heap.size  m' ms ∧ OwnB W w6.heap.size  b' bs | 7 => v = .agg [gz, .int .i64 ep2, .int .i64 fr2, .int .i64 lf2, mz, .int .i64 kd2, bz].toArray | 8 => v = .bool (sameB gs ep fr lf ms kd bs gs2 ep2 fr2 lf2 ms2 kd2 bs2) | 9 => v = .bool true | 10 => v = .bool true | 11 => v = .bool true | 12 => v = .bool true | 13 => v = .bool true | _ => True) ⟨rfl, rfl, rfl, rfl, rfl, rfl, rfl, rfl, rfl, rfl, rfl, rfl, rfl, rfl, rfl, rfl, rfl, rfl, rfl, rfl, rfl, rfl, rfl, rfl, rfl, rfl, rfl, rfl, trivial⟩ (by decide) rfl ?_ ?_ ?_
    · intro i v W W' h k
      match i, h with
      | 0, h => exact h
      | 1, h => exact h
      | 2, h => exact h
      | 3, h => exact h
      | 4, h => exact h
      | 5, h => exact h
      | 6, h => exact (by obtain ⟨g', m', b', h1, h2, h3, h4⟩ := h; exact ⟨g', m', b', h1, h2.keep0 k, h3.keep0 k, h4.keep0 k⟩)
      | 7, h => exact h
      | 8, h => exact h
      | 9, h => exact h
      | 10, h => exact h
      | 11, h => exact h
      | 12, h => exact h
      | 13, h => exact h
      | _ + 14, _ => trivial
    · refine ⟨?_, ?_, ?_, ?_, ?_, ?_, ?_, ?_, ?_, ?_, ?_, ?_, ?_, ?_, trivial⟩
      · refine ⟨[], rfl, ?_⟩; rintro W1 hk vs hd
        replace hb1 := hb1.keep0 hk
        replace hb2 := hb2.keep0 hk
        replace og1 := og1.keep0 hk
        replace om1 := om1.keep0 hk
        replace ob1 := ob1.keep0 hk
        replace o1 := o1.keep0 hk
        replace og2 := og2.keep0 hk
        replace om2 := om2.keep0 hk
        replace ob2 := ob2.keep0 hk
        replace o2 := o2.keep0 hk
        replace hB := hB.trans hk
        refine ⟨true, fun a _ => rfl, fun _ => ?_, fun h => by cases h⟩
        refine does_sub [(5, _)] ⟨rfl, trivial⟩ ?_
        refine (Gives.does (g_mv rfl)).mono ?_
        rintro v W2 ⟨rfl, rfl⟩
        exact ⟨Keep.refl _ _, rfl⟩
      · refine ⟨[0], rfl, ?_⟩; rintro W1 hk vs hd
        have d0 : (vs 0) = v1 := hd 0 (by decide)
        replace hb1 := hb1.keep0 hk
        replace hb2 := hb2.keep0 hk
        replace og1 := og1.keep0 hk
        replace om1 := om1.keep0 hk
        replace ob1 := ob1.keep0 hk
        replace o1 := o1.keep0 hk
        replace og2 := og2.keep0 hk
        replace om2 := om2.keep0 hk
        replace ob2 := ob2.keep0 hk
        replace o2 := o2.keep0 hk
        replace hB := hB.trans hk
        refine ⟨true, fun a _ => rfl, fun _ => ?_, fun h => by cases h⟩
        refine does_sub [(30, v1)] ⟨congrArg some d0, trivial⟩ ?_
        refine (Gives.does (g_str Try.underlying22 Try.underlying5 Try.underlying9 rfl (by first | assumption | exact Own.rd (by assumption) | exact Rd.keep0 (by assumption) hB | exact Own.rd (Own.keep0 (by assumption) hB)))).mono ?_
        rintro v W2 ⟨rfl, rfl⟩
        exact ⟨Keep.refl _ _, rfl⟩
      · refine ⟨[], rfl, ?_⟩; rintro W1 hk vs hd
        replace hb1 := hb1.keep0 hk
        replace hb2 := hb2.keep0 hk
        replace og1 := og1.keep0 hk
        replace om1 := om1.keep0 hk
        replace ob1 := ob1.keep0 hk
        replace o1 := o1.keep0 hk
        replace og2 := og2.keep0 hk
        replace om2 := om2.keep0 hk
        replace ob2 := ob2.keep0 hk
        replace o2 := o2.keep0 hk
        replace hB := hB.trans hk
        refine ⟨true, fun a _ => rfl, fun _ => ?_, fun h => by cases h⟩
        refine does_sub [(7, _)] ⟨rfl, trivial⟩ ?_
        refine (Gives.does (g_mv rfl)).mono ?_
        rintro v W2 ⟨rfl, rfl⟩
        exact ⟨Keep.refl _ _, rfl⟩
      · refine ⟨[2], rfl, ?_⟩; rintro W1 hk vs hd
        have d2 : (vs 2) = v2 := hd 2 (by decide)
        replace hb1 := hb1.keep0 hk
        replace hb2 := hb2.keep0 hk
        replace og1 := og1.keep0 hk
        replace om1 := om1.keep0 hk
        replace ob1 := ob1.keep0 hk
        replace o1 := o1.keep0 hk
        replace og2 := og2.keep0 hk
        replace om2 := om2.keep0 hk
        replace ob2 := ob2.keep0 hk
        replace o2 := o2.keep0 hk
        replace hB := hB.trans hk
        refine ⟨true, fun a _ => rfl, fun _ => ?_, fun h => by cases h⟩
        refine does_sub [(32, v2)] ⟨congrArg some d2, trivial⟩ ?_
        refine (Gives.does (g_str Try.underlying22 Try.underlying5 Try.underlying9 rfl (by first | assumption | exact Own.rd (by assumption) | exact Rd.keep0 (by assumption) hB | exact Own.rd (Own.keep0 (by assumption) hB)))).mono ?_
        rintro v W2 ⟨rfl, rfl⟩
        exact ⟨Keep.refl _ _, rfl⟩
      · refine ⟨[1, 3], rfl, ?_⟩; rintro W1 hk vs hd
        have d1 : (vs 1) = .string (strOf (putB gs ep fr lf ms kd bs)) := hd 1 (by decide)
        have d3 : (vs 3) = .string (strOf (putB gs2 ep2 fr2 lf2 ms2 kd2 bs2)) := hd 3 (by decide)
        replace hb1 := hb1.keep0 hk
        replace hb2 := hb2.keep0 hk
        replace og1 := og1.keep0 hk
        replace om1 := om1.keep0 hk
        replace ob1 := ob1.keep0 hk
        replace o1 := o1.keep0 hk
        replace og2 := og2.keep0 hk
        replace om2 := om2.keep0 hk
        replace ob2 := ob2.keep0 hk
        replace o2 := o2.keep0 hk
        replace hB := hB.trans hk
        refine ⟨true, fun a _ => rfl, fun _ => ?_, fun h => by cases h⟩
        refine does_sub [(31, .string (strOf (putB gs ep fr lf ms kd bs))), (33, .string (strOf (putB gs2 ep2 fr2 lf2 ms2 kd2 bs2)))] ⟨congrArg some d1, congrArg some d3, trivial⟩ ?_
        refine (Gives.does (g_eqs rfl rfl)).mono ?_
        rintro v W2 ⟨rfl, rfl⟩
        exact ⟨Keep.refl _ _, rfl⟩
      · refine ⟨[], rfl, ?_⟩; rintro W1 hk vs hd
        replace hb1 := hb1.keep0 hk
        replace hb2 := hb2.keep0 hk
        replace og1 := og1.keep0 hk
        replace om1 := om1.keep0 hk
        replace ob1 := ob1.keep0 hk
        replace o1 := o1.keep0 hk
        replace og2 := og2.keep0 hk
        replace om2 := om2.keep0 hk
        replace ob2 := ob2.keep0 hk
        replace o2 := o2.keep0 hk
        replace hB := hB.trans hk
        refine ⟨true, fun a _ => rfl, fun _ => ?_, fun h => by cases h⟩
        refine does_sub [(2, _)] ⟨rfl, trivial⟩ ?_
        refine (Gives.does (g_ldab (cs' := [_, _, _, _, _, _, _]) ag24 ty24 rfl (by assumption) rfl rfl)).mono ?_
        rintro v W2 ⟨rfl, rfl⟩
        exact ⟨Keep.refl _ _, rfl⟩
      · refine ⟨[5], rfl, ?_⟩; rintro W1 hk vs hd
        have d5 : (vs 5) = .agg [g, .int .i64 ep, .int .i64 fr, .int .i64 lf, m, .int .i64 kd, b].toArray := hd 5 (by decide)
        replace hb1 := hb1.keep0 hk
        replace hb2 := hb2.keep0 hk
        replace og1 := og1.keep0 hk
        replace om1 := om1.keep0 hk
        replace ob1 := ob1.keep0 hk
        replace o1 := o1.keep0 hk
        replace og2 := og2.keep0 hk
        replace om2 := om2.keep0 hk
        replace ob2 := ob2.keep0 hk
        replace o2 := o2.keep0 hk
        replace hB := hB.trans hk
        refine ⟨true, fun a _ => rfl, fun _ => ?_, fun h => by cases h⟩
        refine does_sub [(35, .agg [g, .int .i64 ep, .int .i64 fr, .int .i64 lf, m, .int .i64 kd, b].toArray)] ⟨congrArg some d5, trivial⟩ ?_
        refine (d_call (vs := [_]) rfl (content_any _ _ _ gs ms bs _ _ _ _ _ (hg.keep0 hB) (hm.keep0 hB) (hb.keep0 hB) sg sm sb)).mono ?_
        rintro v W2 ⟨g', m', b', h1, h2, h3, h4, k1⟩
        exact ⟨k1, g', m', b', h1, h2.lo hk.size, h3.lo hk.size, h4.lo hk.size⟩
      · refine ⟨[], rfl, ?_⟩; rintro W1 hk vs hd
        replace hb1 := hb1.keep0 hk
        replace hb2 := hb2.keep0 hk
        replace og1 := og1.keep0 hk
        replace om1 := om1.keep0 hk
        replace ob1 := ob1.keep0 hk
        replace o1 := o1.keep0 hk
        replace og2 := og2.keep0 hk
        replace om2 := om2.keep0 hk
        replace ob2 := ob2.keep0 hk
        replace o2 := o2.keep0 hk
        replace hB := hB.trans hk
        refine ⟨true, fun a _ => rfl, fun _ => ?_, fun h => by cases h⟩
        refine does_sub [(3, _)] ⟨rfl, trivial⟩ ?_
        refine (Gives.does (g_ldab (cs' := [_, _, _, _, _, _, _]) ag24 ty24 rfl (by assumption) rfl rfl)).mono ?_
        rintro v W2 ⟨rfl, rfl⟩
        exact ⟨Keep.refl _ _, rfl⟩
      · refine ⟨[6, 7], rfl, ?_⟩; rintro W1 hk vs hd
        have d6 : ∃ g' m' b', (vs 6) = .agg [g', .int .i64 ep, .int .i64 fr, .int .i64 lf, m', .int .i64 kd, b'].toArray ∧ OwnB W1 w6.heap.size  g' gs ∧ OwnB W1 w6.heap.size  m' ms ∧ OwnB W1 w6.heap.size  b' bs := hd 6 (by decide)
        have d7 : (vs 7) = .agg [gz, .int .i64 ep2, .int .i64 fr2, .int .i64 lf2, mz, .int .i64 kd2, bz].toArray := hd 7 (by decide)
        replace hb1 := hb1.keep0 hk
        replace hb2 := hb2.keep0 hk
        replace og1 := og1.keep0 hk
        replace om1 := om1.keep0 hk
        replace ob1 := ob1.keep0 hk
        replace o1 := o1.keep0 hk
        replace og2 := og2.keep0 hk
        replace om2 := om2.keep0 hk
        replace ob2 := ob2.keep0 hk
        replace o2 := o2.keep0 hk
        replace hB := hB.trans hk
        refine ⟨true, fun a _ => rfl, fun _ => ?_, fun h => by cases h⟩
        refine does_sub [(36, vs 6), (37, .agg [gz, .int .i64 ep2, .int .i64 fr2, .int .i64 lf2, mz, .int .i64 kd2, bz].toArray)] ⟨rfl, congrArg some d7, trivial⟩ ?_
        obtain ⟨g', m', b', h17, og', om', ob'⟩ := d6
        rw [h17]
        refine (d_call (vs := [_, _]) rfl (same_content_any _ _ _ gs ms bs _ _ _ _ _ og'.rd om'.rd ob'.rd _ _ _ gs2 ms2 bs2 _ _ _ _ (hgz.keep0 hB) (hmz.keep0 hB) (hbz.keep0 hB))).mono ?_
        rintro v W2 ⟨h1, k1⟩
        exact ⟨k1, h1⟩
      · refine ⟨[4, 8], rfl, ?_⟩; rintro W1 hk vs hd
        have d4 : (vs 4) = .bool (decide (putB gs ep fr lf ms kd bs = putB gs2 ep2 fr2 lf2 ms2 kd2 bs2)) := hd 4 (by decide)
        have d8 : (vs 8) = .bool (sameB gs ep fr lf ms kd bs gs2 ep2 fr2 lf2 ms2 kd2 bs2) := hd 8 (by decide)
        replace hb1 := hb1.keep0 hk
        replace hb2 := hb2.keep0 hk
        replace og1 := og1.keep0 hk
        replace om1 := om1.keep0 hk
        replace ob1 := ob1.keep0 hk
        replace o1 := o1.keep0 hk
        replace og2 := og2.keep0 hk
        replace om2 := om2.keep0 hk
        replace ob2 := ob2.keep0 hk
        replace o2 := o2.keep0 hk
        replace hB := hB.trans hk
        refine ⟨true, fun a _ => rfl, fun _ => ?_, fun h => by cases h⟩
        refine does_sub [(34, .bool (decide (putB gs ep fr lf ms kd bs = putB gs2 ep2 fr2 lf2 ms2 kd2 bs2))), (38, .bool (sameB gs ep fr lf ms kd bs gs2 ep2 fr2 lf2 ms2 kd2 bs2))] ⟨congrArg some d4, congrArg some d8, trivial⟩ ?_
        refine (Gives.does (g_eqb Try.underlying4 rfl rfl)).mono ?_
        rintro v W2 ⟨rfl, rfl⟩
        exact ⟨Keep.refl _ _, congrArg Value.bool hlaw⟩
      · refine ⟨[9], rfl, ?_⟩; rintro W1 hk vs hd
        have d9 : (vs 9) = .bool true := hd 9 (by decide)
        replace hb1 := hb1.keep0 hk
        replace hb2 := hb2.keep0 hk
        replace og1 := og1.keep0 hk
        replace om1 := om1.keep0 hk
        replace ob1 := ob1.keep0 hk
        replace o1 := o1.keep0 hk
        replace og2 := og2.keep0 hk
        replace om2 := om2.keep0 hk
        replace ob2 := ob2.keep0 hk
        replace o2 := o2.keep0 hk
        replace hB := hB.trans hk
        refine ⟨true, fun a _ => rfl, fun _ => ?_, fun h => by cases h⟩
        refine does_sub [(39, .bool true)] ⟨congrArg some d9, trivial⟩ ?_
        refine (Gives.does (g_mv rfl)).mono ?_
        rintro v W2 ⟨rfl, rfl⟩
        exact ⟨Keep.refl _ _, rfl⟩
      · refine ⟨[10], rfl, ?_⟩; rintro W1 hk vs hd
        have d10 : (vs 10) = .bool true := hd 10 (by decide)
        replace hb1 := hb1.keep0 hk
        replace hb2 := hb2.keep0 hk
        replace og1 := og1.keep0 hk
        replace om1 := om1.keep0 hk
        replace ob1 := ob1.keep0 hk
        replace o1 := o1.keep0 hk
        replace og2 := og2.keep0 hk
        replace om2 := om2.keep0 hk
        replace ob2 := ob2.keep0 hk
        replace o2 := o2.keep0 hk
        replace hB := hB.trans hk
        refine ⟨true, fun a ha => (by refine grd1 (c := true) (b := true) (oj := ?oj) (d := 40) ?h1 ?h2 ?h3 rfl a ha; (case h1 => exact rfl); (case h2 => exact rfl); (case h3 => exact congrArg some d10)), fun _ => ?_, fun h => by cases h⟩
        refine does_sub [] trivial ?_
        refine (d_call (vs := []) rfl (knows_any _)).mono ?_
        rintro v W2 ⟨h1, k1⟩
        exact ⟨k1, h1⟩
      · refine ⟨[10, 11], rfl, ?_⟩; rintro W1 hk vs hd
        have d10 : (vs 10) = .bool true := hd 10 (by decide)
        have d11 : (vs 11) = .bool true := hd 11 (by decide)
        replace hb1 := hb1.keep0 hk
        replace hb2 := hb2.keep0 hk
        replace og1 := og1.keep0 hk
        replace om1 := om1.keep0 hk
        replace ob1 := ob1.keep0 hk
        replace o1 := o1.keep0 hk
        replace og2 := og2.keep0 hk
        replace om2 := om2.keep0 hk
        replace ob2 := ob2.keep0 hk
        replace o2 := o2.keep0 hk
        replace hB := hB.trans hk
        refine ⟨true, fun a _ => rfl, fun _ => ?_, fun h => by cases h⟩
        refine does_sub [(40, .bool true), (41, .bool true)] ⟨congrArg some d10, congrArg some d11, trivial⟩ ?_
        refine (Gives.does (g_pick rfl rfl rfl)).mono ?_
        rintro v W2 ⟨rfl, rfl⟩
        exact ⟨Keep.refl _ _, rfl⟩
      · refine ⟨[12], rfl, ?_⟩; rintro W1 hk vs hd
        have d12 : (vs 12) = .bool true := hd 12 (by decide)
        replace hb1 := hb1.keep0 hk
        replace hb2 := hb2.keep0 hk
        replace og1 := og1.keep0 hk
        replace om1 := om1.keep0 hk
        replace ob1 := ob1.keep0 hk
        replace o1 := o1.keep0 hk
        replace og2 := og2.keep0 hk
        replace om2 := om2.keep0 hk
        replace ob2 := ob2.keep0 hk
        replace o2 := o2.keep0 hk
        replace hB := hB.trans hk
        refine ⟨true, fun a _ => rfl, fun _ => ?_, fun h => by cases h⟩
        refine does_sub [(42, .bool true)] ⟨congrArg some d12, trivial⟩ ?_
        refine (Gives.does (g_as rfl)).mono ?_
        rintro v W2 ⟨rfl, rfl⟩
        exact ⟨Keep.refl _ _, rfl⟩
    rintro w8 k8 vs hv
    have z_k8 := k8.size
    replace hb1 := hb1.keep0 k8
    replace hb2 := hb2.keep0 k8
    replace og1 := og1.keep0 k8
    replace om1 := om1.keep0 k8
    replace ob1 := ob1.keep0 k8
    replace o1 := o1.keep0 k8
    replace og2 := og2.keep0 k8
    replace om2 := om2.keep0 k8
    replace ob2 := ob2.keep0 k8
    replace o2 := o2.keep0 k8
    replace hB := hB.trans k8
    have e4 : (vs 13) = .bool true := hv 13 (by decide) rfl
    refine tw_keep [(4, .bool true), (5, _), (7, _), (2, _), (3, _), (0, _), (1, _), (10, _), (11, _), (12, _), (9, _), (13, _), (14, _), (6, _), (16, _), (17, _), (18, _), (15, _), (19, _), (20, _), (8, _), (21, _), (22, _), (23, _), (24, _), (25, _), (26, _), (27, _), (28, _)] ⟨congrArg some e4, rfl, rfl, rfl, rfl, rfl, rfl, rfl, rfl, rfl, rfl, rfl, rfl, rfl, rfl, rfl, rfl, rfl, rfl, rfl, rfl, rfl, rfl, rfl, rfl, rfl, rfl, rfl, rfl, trivial⟩ ?_
    refine tw_ret1 hfin Try.results3 rfl ?_
    exact ⟨rfl, hB⟩

end Go.Proofs.Ytdbfpmkilchilaa.W
