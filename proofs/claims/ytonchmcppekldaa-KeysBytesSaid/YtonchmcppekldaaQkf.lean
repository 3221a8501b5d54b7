/- Contracts and laws, part 6 of 6: what each function of the program and of the reference computes, shown once. -/
import Derived.Test.YtonchmcppekldaaQke
namespace Go.Proofs.Ytonchmcppekldaa.W
open Go Go.Eng Go.Byt
set_option linter.unusedVariables false
set_option linter.unusedSimpArgs false
set_option maxRecDepth 100000 in
set_option maxHeartbeats 1000000 in
theorem lent_any (v : Value) (xs : List UInt8) (w : World) (hv : RdB w v xs) (hx : xs.length ≤ 140737488351232) : Rets Try.prog 5 [v] w (fun r w' => ∃ u, r = cut u 0 xs.length 1 ∧ Own w' w.heap.size 5 1 u (xs.length + 2) (bv (xs ++ [201, 202])) ∧ Keep [] w w') := by
 have hB : Keep [] w w := Keep.refl _ _
 refine rets_of_tw Try.func5 rfl (by decide) Try.ntmps5 rfl (fun fin _ hfin => ?_)
 refine tw_seq (tw_region (ow_g (g_as rfl) rfl (ow_nil (tw_seq (tw_region ?_)))))
 have gl_oa := hB.size
 refine ow_d (d_bs0 Try.underlying22 ty5 rfl) rfl ?_
 rintro _ wg ⟨g, rfl, hge, hg0, kg⟩
 replace hB := hB.trans kg
 refine ow_g (g_mv rfl) rfl (ow_d (d_app0 (lo := w.heap.size) Try.underlying22 ty5 rfl rfl rfl hg0 (hge ▸ Nat.le_refl _) rfl (hv.keep0 hB) (by omega)) rfl ?_)
 rintro va wa ⟨oa, ka⟩
 replace hB := hB.trans ka
 refine ow_g (g_as rfl) rfl (ow_nil (tw_seq (tw_region (ow_g (g_mv rfl) rfl ?_))))
 have hlo0 : w.heap.size ≤ wa.heap.size := Nat.le_trans kg.size ka.size
 refine ow_d (d_bs (m := 2) (xs := [.const (.int .u8 (201)), .const (.int .u8 (202))]) (vs := [_, _]) Try.underlying22 ty5 (by decide) rfl rfl rfl (by simp only [List.forall_mem_cons]; exact ⟨rfl, rfl, fun v hv => by cases hv⟩) (by decide)) rfl ?_
 rintro v1 w1 ⟨o1, nn1, lb1, k1, z1⟩
 have gl_o1 := hB.size
 replace oa := oa.keep0 k1
 replace hB := hB.trans k1
 have u_o1 := o1.blk
 replace o1 : Own w1 _ _ 1 v1 2 (bv [201, 202]) := o1
 have hlo := Nat.le_trans hlo0 k1.size
 refine ow_d (d_appB Try.underlying22 ty5 rfl oa rfl (show RdB _ _ [201, 202] from o1.rd) (by show xs.length + 2 ≤ _; omega) hlo) rfl ?_
 rintro vb wb ⟨ob, kb, _, _⟩
 replace hB := hB.new kb (fun x hx => .inl (Nat.le_trans gl_oa (oa.blk x hx).1))
 refine ow_g (g_as rfl) rfl (ow_nil (tw_seq (tw_region (ow_g (g_mv rfl) rfl (ow_g (g_mv rfl) rfl (ow_g (g_len Try.underlying22 rfl (by first | assumption | exact Own.rd ‹_› | exact Rd.keep0 ‹_› hB | exact Own.rd (Own.keep0 ‹_› hB))) rfl ?_))))))
 refine ow_g (g_sl Try.underlying22 ty5 rfl ob.rd (.inl ⟨rfl, rfl⟩) (.inr ⟨_, _, rfl, rfl⟩) (by have := ob.rd.vcap; have : [(201 : UInt8), 202].length = 2 := rfl; omega)) rfl ?_
 refine ow_g (g_as rfl) rfl (ow_nil (tw_keep [(2, _)] ⟨rfl, trivial⟩ ?_))
 refine tw_ret1 hfin Try.results5 rfl ?_
 exact ⟨vb, rfl, ob.lo gl_oa, hB⟩
set_option maxRecDepth 100000 in
set_option maxHeartbeats 1000000 in
theorem stays_any (u v : Value) (xs : List UInt8) (lo : Nat) (w : World) (ho : Own w lo 5 1 u (xs.length + 2) (bv (xs ++ [201, 202]))) (hv : RdB w v xs) (hx : xs.length ≤ 140737488351232) : Rets Try.prog 13 [cut u 0 xs.length 1, v] w (fun r w' => r = .bool true ∧ Keep [] w w') := by
  have hB : Keep [] w w := Keep.refl _ _
  obtain ⟨u10, hu10⟩ : ∃ u10, u10 = cut (cut u 0 xs.length 1) (0 : Int).toNat ((xs.length : Int) + 2).toNat 1 := ⟨_, rfl⟩
  have hall : RdB w u (xs ++ [201, 202]) := by unfold RdB; rw [List.length_append]; exact ho.rd
  have h10 : RdB w u10 (xs ++ [201, 202]) := by
    have e : cut (cut u 0 xs.length 1) (0 : Int).toNat ((xs.length : Int) + 2).toNat 1 = cut u 0 (xs.length + 2) 1 := by rw [show (0 : Int).toNat = 0 from rfl, show ((xs.length : Int) + 2).toNat = xs.length + 2 by omega]; exact cut_cut hall
    rw [hu10, e]
    have h := hall.cutB (l := 0) (hi := xs.length + 2) (by omega) (by simp)
    rwa [List.drop_zero, Nat.sub_zero, List.take_of_length_le (by simp)] at h
  have h14 : RdB w (cut u10 0 xs.length 1) xs := by
    have h := h10.cutB (l := 0) (hi := xs.length) (by omega) (by simp)
    rwa [List.drop_zero, Nat.sub_zero, List.take_left' rfl] at h
  have hcap : (0 : Int) ≤ 0 ∧ (0 : Int) ≤ (xs.length : Int) + 2 ∧ (xs.length : Int) + 2 ≤ (vcap (cut u 0 xs.length 1) : Int) := by
    obtain ⟨A, c, e, h1, h2, _⟩ := hall
    subst e
    rw [List.length_append] at h1
    have h1 : xs.length + 2 ≤ c := h1
    refine ⟨Int.le_refl _, by omega, ?_⟩
    show (xs.length : Int) + 2 ≤ ((c - 0 : Nat) : Int)
    omega
  refine rets_of_tw Try.func13 rfl (by decide) Try.ntmps13 rfl (fun fin _ hfin => ?_)
  refine tw_seq ?_
  refine tw_region ?_
  refine ow_g (g_as rfl) rfl ?_
  refine ow_nil ?_
  refine tw_seq ?_
  refine tw_region ?_
  refine ow_g (g_mv rfl) rfl ?_
  refine ow_g (g_mv rfl) rfl ?_
  refine ow_g (g_len Try.underlying22 rfl (by first | assumption | exact Own.rd (by assumption) | exact Rd.keep0 (by assumption) hB | exact Own.rd (Own.keep0 (by assumption) hB))) rfl ?_
  refine ow_g (g_add rfl rfl (by omega)) rfl ?_
  refine ow_g (v := u10) (by rw [hu10]; exact g_sl Try.underlying22 ty5 rfl (lent_rd ho) (.inl ⟨rfl, rfl⟩) (.inr ⟨_, _, rfl, rfl⟩) hcap) rfl ?_
  refine ow_g (g_as rfl) rfl ?_
  refine ow_nil ?_
  refine tw_seq ?_
  refine tw_planA 26 [0, 1, 2, 3, 4, 5, 6, 7, 8, 9, 10, 11, 12, 13, 14, 15, 16, 17, 18, 19, 20, 21, 22, 23, 24, 25] [] [] [] mixed [(5, _), (1, _)] ⟨rfl, rfl, trivial⟩ (by decide +kernel) (by decide) (by decide) ?_ (fun x hx => by cases hx) rfl (fun w1 k1 => ?_)
  · intro q hq; cases hq
  replace hB := hB.trans k1
  refine pa_g [(5, _)] rfl rfl ⟨rfl, trivial⟩ rfl (fun W' kk => g_mv rfl) ?_
  refine pa_g [(1, _)] rfl rfl ⟨rfl, trivial⟩ rfl (fun W' kk => g_mv rfl) ?_
  refine pa_g [(12, _)] rfl rfl ⟨rfl, trivial⟩ rfl (fun W' kk => g_len Try.underlying22 rfl (by first | exact Rd.keep0 (by assumption) kk | exact Rd.keep0 (Own.rd (by assumption)) kk | exact Rd.keep0 (Rd.keep0 (by assumption) hB) kk | exact Rd.keep0 (Own.rd (Own.keep0 (by assumption) hB)) kk)) ?_
  refine pa_g [(11, _), (13, _)] rfl rfl ⟨rfl, rfl, trivial⟩ rfl (fun W' kk => g_sl Try.underlying22 ty5 rfl (by first | exact Rd.keep0 (by assumption) kk | exact Rd.keep0 (Own.rd (by assumption)) kk | exact Rd.keep0 (Rd.keep0 (by assumption) hB) kk | exact Rd.keep0 (Own.rd (Own.keep0 (by assumption) hB)) kk) (.inl ⟨rfl, rfl⟩) (.inr ⟨_, _, rfl, rfl⟩) (by have := h10.vcap; simp only [List.length_append, List.length_cons, List.length_nil] at this; omega)) ?_
  refine pa_g [(14, _)] rfl rfl ⟨rfl, trivial⟩ rfl (fun W' kk => g_str Try.underlying22 Try.underlying5 Try.underlying9 rfl (by first | exact Rd.keep0 (by assumption) kk | exact Rd.keep0 (Own.rd (by assumption)) kk | exact Rd.keep0 (Rd.keep0 (by assumption) hB) kk | exact Rd.keep0 (Own.rd (Own.keep0 (by assumption) hB)) kk)) ?_
  refine pa_g [(1, _)] rfl rfl ⟨rfl, trivial⟩ rfl (fun W' kk => g_mv rfl) ?_
  refine pa_g [(16, _)] rfl rfl ⟨rfl, trivial⟩ rfl (fun W' kk => g_str Try.underlying22 Try.underlying5 Try.underlying9 rfl (by first | exact Rd.keep0 (by assumption) kk | exact Rd.keep0 (Own.rd (by assumption)) kk | exact Rd.keep0 (Rd.keep0 (by assumption) hB) kk | exact Rd.keep0 (Own.rd (Own.keep0 (by assumption) hB)) kk)) ?_
  refine pa_g [(15, _), (17, _)] rfl rfl ⟨rfl, rfl, trivial⟩ rfl (fun W' kk => g_eqs rfl rfl) ?_
  refine pa_g [(18, _)] rfl rfl ⟨rfl, trivial⟩ rfl (fun W' kk => g_mv rfl) ?_
  refine pa_gt [(5, _), (19, _)] rfl rfl ⟨rfl, rfl, trivial⟩ rfl (grdT rfl rfl rfl (decide_eq_true rfl)) (fun W' kk => g_mv rfl) ?_
  refine pa_gt [(1, _), (19, _)] rfl rfl ⟨rfl, rfl, trivial⟩ rfl (grdT rfl rfl rfl (decide_eq_true rfl)) (fun W' kk => g_mv rfl) ?_
  refine pa_gt [(19, _), (21, _)] rfl rfl ⟨rfl, rfl, trivial⟩ rfl (grdT rfl rfl rfl (decide_eq_true rfl)) (fun W' kk => g_len Try.underlying22 rfl (by first | exact Rd.keep0 (by assumption) kk | exact Rd.keep0 (Own.rd (by assumption)) kk | exact Rd.keep0 (Rd.keep0 (by assumption) hB) kk | exact Rd.keep0 (Own.rd (Own.keep0 (by assumption) hB)) kk)) ?_
  refine pa_gt [(19, _), (20, _), (22, _)] rfl rfl ⟨rfl, rfl, rfl, trivial⟩ rfl (grdT rfl rfl rfl (decide_eq_true rfl)) (fun W' kk => g_ix Try.underlying22 ty5 rfl (by first | exact Rd.keep0 (by assumption) kk | exact Rd.keep0 (Own.rd (by assumption)) kk | exact Rd.keep0 (Rd.keep0 (by assumption) hB) kk | exact Rd.keep0 (Own.rd (Own.keep0 (by assumption) hB)) kk) rfl (by simp only [List.length_append, List.length_cons, List.length_nil]; omega)) ?_
  refine pa_gt [(19, _), (23, _)] rfl rfl ⟨rfl, rfl, trivial⟩ rfl (grdT rfl rfl rfl (decide_eq_true rfl)) (fun W' kk => g_ldB sc5 rfl (by first | exact Rd.keep0 (by assumption) kk | exact Rd.keep0 (Own.rd (by assumption)) kk | exact Rd.keep0 (Rd.keep0 (by assumption) hB) kk | exact Rd.keep0 (Own.rd (Own.keep0 (by assumption) hB)) kk) (by simp only [List.length_append, List.length_cons, List.length_nil]; omega)) ?_
  refine pa_gt [(19, _), (24, _)] rfl rfl ⟨rfl, rfl, trivial⟩ rfl (grdT rfl rfl rfl (decide_eq_true rfl)) (fun W' kk => g_eq rfl rfl) ?_
  refine pa_g [(19, _), (25, _)] rfl rfl ⟨rfl, rfl, trivial⟩ rfl (fun W' kk => g_pickT rfl (decide_eq_true rfl) rfl) ?_
  refine pa_g [(26, _)] rfl rfl ⟨rfl, trivial⟩ rfl (fun W' kk => g_mv rfl) ?_
  refine pa_gt [(5, _), (27, _)] rfl rfl ⟨rfl, rfl, trivial⟩ rfl (grdT rfl rfl rfl (decide_eq_true (mark1 xs))) (fun W' kk => g_mv rfl) ?_
  refine pa_gt [(1, _), (27, _)] rfl rfl ⟨rfl, rfl, trivial⟩ rfl (grdT rfl rfl rfl (decide_eq_true (mark1 xs))) (fun W' kk => g_mv rfl) ?_
  refine pa_gt [(27, _), (29, _)] rfl rfl ⟨rfl, rfl, trivial⟩ rfl (grdT rfl rfl rfl (decide_eq_true (mark1 xs))) (fun W' kk => g_len Try.underlying22 rfl (by first | exact Rd.keep0 (by assumption) kk | exact Rd.keep0 (Own.rd (by assumption)) kk | exact Rd.keep0 (Rd.keep0 (by assumption) hB) kk | exact Rd.keep0 (Own.rd (Own.keep0 (by assumption) hB)) kk)) ?_
  refine pa_gt [(27, _), (30, _)] rfl rfl ⟨rfl, rfl, trivial⟩ rfl (grdT rfl rfl rfl (decide_eq_true (mark1 xs))) (fun W' kk => g_add rfl rfl (by omega)) ?_
  refine pa_gt [(27, _), (28, _), (31, _)] rfl rfl ⟨rfl, rfl, rfl, trivial⟩ rfl (grdT rfl rfl rfl (decide_eq_true (mark1 xs))) (fun W' kk => g_ix Try.underlying22 ty5 rfl (by first | exact Rd.keep0 (by assumption) kk | exact Rd.keep0 (Own.rd (by assumption)) kk | exact Rd.keep0 (Rd.keep0 (by assumption) hB) kk | exact Rd.keep0 (Own.rd (Own.keep0 (by assumption) hB)) kk) rfl (by simp only [List.length_append, List.length_cons, List.length_nil]; omega)) ?_
  refine pa_gt [(27, _), (32, _)] rfl rfl ⟨rfl, rfl, trivial⟩ rfl (grdT rfl rfl rfl (decide_eq_true (mark1 xs))) (fun W' kk => g_ldB sc5 rfl (by first | exact Rd.keep0 (by assumption) kk | exact Rd.keep0 (Own.rd (by assumption)) kk | exact Rd.keep0 (Rd.keep0 (by assumption) hB) kk | exact Rd.keep0 (Own.rd (Own.keep0 (by assumption) hB)) kk) (by simp only [List.length_append, List.length_cons, List.length_nil]; omega)) ?_
  refine pa_gt [(27, _), (33, _)] rfl rfl ⟨rfl, rfl, trivial⟩ rfl (grdT rfl rfl rfl (decide_eq_true (mark1 xs))) (fun W' kk => g_eq rfl rfl) ?_
  refine pa_g [(27, _), (34, _)] rfl rfl ⟨rfl, rfl, trivial⟩ rfl (fun W' kk => g_pickT rfl (decide_eq_true (mark1 xs)) rfl) ?_
  refine pa_g [(35, _)] rfl rfl ⟨rfl, trivial⟩ rfl (fun W' kk => g_as rfl) ?_
  refine pa_nil (fun w2 k2 => ?_)
  replace hB := hB.trans k2
  refine fina_nil ?_
  refine ow_nil ?_
  refine tw_keep [(4, _)] ⟨rfl, trivial⟩ ?_
  refine tw_ret1 hfin Try.results13 rfl ?_
  exact ⟨by rw [decide_eq_true (mark2 xs)], hB⟩
end Go.Proofs.Ytonchmcppekldaa.W
set_option linter.unusedVariables false
set_option linter.unusedSimpArgs false
namespace Go.Eng
open Go Go.Byt
theorem len_nil {xs : List UInt8} (h : xs.length = 0) : xs = [] := List.eq_nil_of_length_eq_zero h
theorem rLeaf_leafB {l : Lf} (h : leafOk l = true) (r : List UInt8) : rLeaf (leafB l ++ r) 0 = (l, r, 0) := by
  obtain ⟨h1, h2, h3, ⟨h4, h5, h6, h7⟩, h8⟩ := leafOk_iff.1 h
  have e0 : leafB l ++ r = vec l.enc ++ (vec l.sig ++ (vec l.name ++ (be l.src 1 ++ ((if l.src = 3 then vec l.hash else []) ++ (vec l.sg ++ r))))) := by
    unfold leafB leafBare; simp only [List.append_assoc]
  have ea : rVec (leafB l ++ r) 0 = (l.enc, vec l.sig ++ (vec l.name ++ (be l.src 1 ++ ((if l.src = 3 then vec l.hash else []) ++ (vec l.sg ++ r)))), 0) := by rw [e0]; exact rVec_vec (by omega) _
  have eb : rLeafB (leafB l ++ r) 0 = (l.sig, vec l.name ++ (be l.src 1 ++ ((if l.src = 3 then vec l.hash else []) ++ (vec l.sg ++ r))), 0) := by unfold rLeafB; rw [ea]; exact rVec_vec (by omega) _
  have ec : rLeafC (leafB l ++ r) 0 = (l.name, be l.src 1 ++ ((if l.src = 3 then vec l.hash else []) ++ (vec l.sg ++ r)), 0) := by unfold rLeafC; rw [eb]; exact rVec_vec (by omega) _
  have ed : rLeafD (leafB l ++ r) 0 = (l.src, (if l.src = 3 then vec l.hash else []) ++ (vec l.sg ++ r), 0) := by
    unfold rLeafD; rw [ec]
    exact rNum_be (b := 8) (s := 1) (by decide) (by omega) (by omega) _ (fun h => by simp at h)
  have eh : rLeafH (leafB l ++ r) 0 = (l.hash, vec l.sg ++ r, 0) := by
    by_cases h3' : l.src = 3
    · rw [rLeafH_3 (by rw [ed]; exact h3'), ed, if_pos h3']; exact rVec_vec (by omega) _
    · rw [rLeafH_n (by rw [ed]; exact h3'), ed, if_neg h3', len_nil (show l.hash.length = 0 by omega)]; rfl
  have eg : rLeafG (leafB l ++ r) 0 = (l.sg, r, 0) := by unfold rLeafG; rw [eh]; exact rVec_vec (by omega) _
  unfold rLeaf
  rw [ea, eb, ec, ed, eh, eg]
theorem gl_back {l : Lf} (h : leafOk l = true) : glR (leafB l) = l ∧ glE (leafB l) = 0 := by
  have e := rLeaf_leafB h []
  rw [List.append_nil] at e
  have hg : glOk (leafB l) = true := by
    unfold glOk; rw [e]
    simp only [h, Bool.and_true, decide_eq_true_eq, Bool.and_eq_true]
    exact ⟨rfl, trivial⟩
  unfold glR glE; rw [hg, e]; exact ⟨rfl, rfl⟩
theorem gp_back {p : Pk} (h : pkOk p = true) : gpR (pkB p) = p ∧ gpE (pkB p) = 0 := by
  obtain ⟨h1, h2, h3, h4⟩ := pkOk_iff.1 h
  have e0 : pkB p = be 65537 4 ++ (vec p.init ++ (leafB p.leaf ++ (vec p.sg ++ []))) := by
    unfold pkB pkOffer; rw [show be 65537 4 = [0, 1, 0, 1] from by decide, List.append_nil]; simp only [List.append_assoc]
  have eh : gpH (pkB p) = (65537, vec p.init ++ (leafB p.leaf ++ (vec p.sg ++ [])), 0) := by
    unfold gpH; rw [e0]
    exact rNum_be (b := 32) (s := 4) (by decide) (by decide) (by decide) _ (fun h => by simp at h)
  have ei : gpI (pkB p) = (p.init, leafB p.leaf ++ (vec p.sg ++ []), 0) := by unfold gpI; rw [eh]; exact rVec_vec (by omega) _
  have el : gpL (pkB p) = (p.leaf, vec p.sg ++ [], 0) := by unfold gpL; rw [ei]; exact rLeaf_leafB h2 _
  have eg : gpG (pkB p) = (p.sg, [], 0) := by unfold gpG; rw [el]; exact rVec_vec (by omega) _
  have ep : gpP (pkB p) = p := by unfold gpP; rw [ei, el, eg]
  have hg : gpOk (pkB p) = true := by
    unfold gpOk; rw [ep, eg]
    simp only [h, Bool.and_true, decide_eq_true_eq, Bool.and_eq_true]
    exact ⟨rfl, trivial⟩
  unfold gpR gpE; rw [hg, ep]; exact ⟨rfl, rfl⟩
theorem lfBare_eq {l : Lf} (h : lfBare l = true) : l = lf0 := by
  obtain ⟨h1, h2⟩ := lfBare_iff.1 h
  obtain ⟨a, b, c, d, e, f⟩ := l
  dsimp only at h1 h2
  rw [len_nil (show a.length = 0 by omega), len_nil (show b.length = 0 by omega), len_nil (show c.length = 0 by omega), len_nil (show e.length = 0 by omega), len_nil (show f.length = 0 by omega), h2]
  rfl
theorem pkBare_eq {p : Pk} (h : pkBare p = true) : p = pk0 := by
  obtain ⟨h1, h2⟩ := pkBare_iff.1 h
  obtain ⟨a, b, c⟩ := p
  dsimp only at h1 h2
  rw [len_nil (show a.length = 0 by omega), len_nil (show c.length = 0 by omega), lfBare_eq h2]
  rfl
theorem kpP_to {c : List UInt8} {x : Pr} (hk : (kyA c).1 = 1 ∨ (kyA c).1 = 2 ∨ (kyA c).1 = 3 ∨ (kyA c).1 = 4) (h : kyP c = x) : kpP c = x := by
  unfold kpP; simp only; rw [if_pos hk]; exact h
theorem kp_back {x : Pr} (h : prOk x = true) : kpP (prB x) = x := by
  have hb : prBare x = true := by unfold prOk at h; exact (Bool.and_eq_true_iff.1 h).1
  obtain ⟨b1, b2, b3, b4, b6⟩ := prBare_iff.1 hb
  by_cases k1 : x.kind = 1
  · have hp := prOk_1 h k1
    have hA : kyA (prB x) = (1, vec (pkB x.pk), 0) := by
      refine kyA_of ?_ (by decide) (by decide)
      unfold prB prX; rw [k1, if_pos rfl, kind_be (.inl rfl)]
    have hV : kyV (prB x) = (pkB x.pk, [], 0) := by unfold kyV; rw [hA]; exact vec_nil_end (by have := pkB_len hp; omega) rfl
    refine kpP_to (.inl (by rw [hA])) ?_
    rw [(ky_1 (by rw [hA])).1, hV, (gp_back hp).1]
    have e2 := lfBare_eq (b2.resolve_left (by omega)); have e3 := b3.resolve_left (by omega)
    obtain ⟨k, pk, lf, ix, psk, nonce, enc⟩ := x
    dsimp only at *
    rw [k1, e2, e3, len_nil (show psk.length = 0 by omega), len_nil (show nonce.length = 0 by omega), len_nil (show enc.length = 0 by omega)]
  · by_cases k2 : x.kind = 2
    · have hp := (prOk_2 h k2).1
      have hA : kyA (prB x) = (2, vec (leafB x.lf), 0) := by
        refine kyA_of ?_ (by decide) (by decide)
        unfold prB prX; rw [k2, if_neg (by decide), if_pos rfl, kind_be (.inr (.inl rfl))]
      have hV : kyV (prB x) = (leafB x.lf, [], 0) := by unfold kyV; rw [hA]; exact vec_nil_end (by have := leafB_len hp; omega) rfl
      refine kpP_to (.inr (.inl (by rw [hA]))) ?_
      rw [(ky_2 (by rw [hA])).1, hV, (gl_back hp).1]
      have e1 := pkBare_eq (b1.resolve_left (by omega)); have e3 := b3.resolve_left (by omega)
      obtain ⟨k, pk, lf, ix, psk, nonce, enc⟩ := x
      dsimp only at *
      rw [k2, e1, e3, len_nil (show psk.length = 0 by omega), len_nil (show nonce.length = 0 by omega), len_nil (show enc.length = 0 by omega)]
    · have e1 := pkBare_eq (b1.resolve_left k1); have e2 := lfBare_eq (b2.resolve_left k2)
      by_cases k3 : x.kind = 3
      · have hp := prOk_3 h k3
        have hA : kyA (prB x) = (3, be x.ix 4, 0) := by
          refine kyA_of ?_ (by decide) (by decide)
          unfold prB prX; rw [k3, if_neg (by decide), if_neg (by decide), if_pos rfl, kind_be (.inr (.inr (.inl rfl)))]
        have hN : kyN (prB x) = (x.ix, [], 0) := by
          unfold kyN; rw [hA]
          have := rNum_be (b := 32) (n := x.ix) (s := 4) (by decide) hp.1 (Int.lt_trans hp.2 (by decide)) [] (fun h => by simp at h)
          rw [List.append_nil] at this; exact this
        refine kpP_to (.inr (.inr (.inl (by rw [hA])))) ?_
        rw [(ky_3 (by rw [hA])).1, hN]
        obtain ⟨k, pk, lf, ix, psk, nonce, enc⟩ := x
        dsimp only at *
        rw [k3, e1, e2, len_nil (show psk.length = 0 by omega), len_nil (show nonce.length = 0 by omega), len_nil (show enc.length = 0 by omega)]
      · have e3 := b3.resolve_left k3
        by_cases k4 : x.kind = 4
        · have hp := prOk_4 h k4
          have hA : kyA (prB x) = (4, vec x.psk ++ vec x.nonce, 0) := by
            refine kyA_of ?_ (by decide) (by decide)
            unfold prB prX; rw [k4, if_neg (by decide), if_neg (by decide), if_neg (by decide), if_pos rfl, kind_be (.inr (.inr (.inr (.inl rfl))))]
          have hV : kyV (prB x) = (x.psk, vec x.nonce, 0) := by unfold kyV; rw [hA]; exact rVec_vec (by omega) _
          have hW : kyW (prB x) = (x.nonce, [], 0) := by unfold kyW; rw [hV]; exact vec_nil_end (by omega) rfl
          refine kpP_to (.inr (.inr (.inr (by rw [hA])))) ?_
          rw [(ky_4 (by rw [hA])).1, hV, hW]
          obtain ⟨k, pk, lf, ix, psk, nonce, enc⟩ := x
          dsimp only at *
          rw [k4, e1, e2, e3, len_nil (show enc.length = 0 by omega)]
        · obtain ⟨k6, hp⟩ := prOk_6 h k1 k2 k3 k4
          have hA : kyA (prB x) = (6, vec x.enc, 0) := by
            refine kyA_of ?_ (by decide) (by decide)
            unfold prB prX; rw [k6, if_neg (by decide), if_neg (by decide), if_neg (by decide), if_neg (by decide), kind_be (.inr (.inr (.inr (.inr rfl))))]
          have hV : kyV (prB x) = (x.enc, [], 0) := by unfold kyV; rw [hA]; exact vec_nil_end (by omega) rfl
          have : kpP (prB x) = ⟨(kyA (prB x)).1, pk0, lf0, 0, [], [], (kyV (prB x)).1⟩ := by
            unfold kpP; simp only; rw [if_neg (by rw [hA]; simp)]
          rw [this, hA, hV]
          obtain ⟨k, pk, lf, ix, psk, nonce, enc⟩ := x
          dsimp only at *
          rw [k6, e1, e2, e3, len_nil (show psk.length = 0 by omega), len_nil (show nonce.length = 0 by omega)]
theorem kg_back {x : Pr} (h : prOk x = true) : kgR (prB x) = x ∧ kgE (prB x) = 0 := by
  obtain ⟨d1, d2⟩ := ky_doc (prB x)
  have hb := kp_back h
  have hok : kpOk (prB x) = true := by
    unfold kpOk; rw [hb, h]; simp
  unfold kgR kgE
  rw [d1, hok, cond_true, cond_true, ← d2 hok]; exact ⟨hb, rfl⟩
theorem kg_put {c : List UInt8} (h : kgE c = 0) : prOk (kgR c) = true ∧ prB (kgR c) = c := by
  have hg : kgOk c = true := by
    unfold kgE at h
    cases hg : kgOk c with
    | true => rfl
    | false => rw [hg] at h; exact absurd h (by decide)
  obtain ⟨d1, d2⟩ := ky_doc c
  rw [d1] at hg
  unfold kgR; rw [d1, hg, cond_true, ← d2 hg]
  unfold kpOk at hg
  obtain ⟨g1, g2⟩ := Bool.and_eq_true_iff.1 hg
  exact ⟨g1, of_decide_eq_true g2⟩
end Go.Eng
namespace Go.Proofs.Ytonchmcppekldaa.W
open Go Go.Eng Go.Byt
set_option linter.unusedVariables false
set_option linter.unusedSimpArgs false
theorem prB_len {x : Pr} (h : prOk x = true) : (prB x).length ≤ 3000 := by
  unfold prB prX
  by_cases k1 : x.kind = 1
  · rw [if_pos k1]; have := pkB_len (prOk_1 h k1); have e := vlen_length (pkB x.pk).length; unfold vec; simp only [List.length_append, List.length_cons, List.length_nil]; omega
  · by_cases k2 : x.kind = 2
    · rw [if_neg k1, if_pos k2]; have := leafB_len (prOk_2 h k2).1; have e := vlen_length (leafB x.lf).length; unfold vec; simp only [List.length_append, List.length_cons, List.length_nil]; omega
    · by_cases k3 : x.kind = 3
      · rw [if_neg k1, if_neg k2, if_pos k3]; simp only [List.length_append, List.length_cons, List.length_nil, be_length]; omega
      · by_cases k4 : x.kind = 4
        · rw [if_neg k1, if_neg k2, if_neg k3, if_pos k4]; have := prOk_4 h k4; have e := vlen_length x.psk.length; have e2 := vlen_length x.nonce.length; unfold vec; simp only [List.length_append, List.length_cons, List.length_nil]; omega
        · rw [if_neg k1, if_neg k2, if_neg k3, if_neg k4]; have := prOk_6 h k1 k2 k3 k4; have e := vlen_length x.enc.length; unfold vec; simp only [List.length_append, List.length_cons, List.length_nil]; omega
theorem rd_of {w : World} {v : Value} {c c' : List UInt8} (h : RdB w v c) (e : c = c') : RdB w v c' := e ▸ h
theorem kgR_len (c : List UInt8) : ((kgR c).pk.init).length ≤ 65536 ∧ ((kgR c).pk.leaf.enc).length ≤ 65536 ∧ ((kgR c).pk.leaf.sig).length ≤ 65536 ∧ ((kgR c).pk.leaf.name).length ≤ 65536 ∧ ((kgR c).pk.leaf.hash).length ≤ 65536 ∧ ((kgR c).pk.leaf.sg).length ≤ 65536 ∧ ((kgR c).pk.sg).length ≤ 65536 ∧ ((kgR c).lf.enc).length ≤ 65536 ∧ ((kgR c).lf.sig).length ≤ 65536 ∧ ((kgR c).lf.name).length ≤ 65536 ∧ ((kgR c).lf.hash).length ≤ 65536 ∧ ((kgR c).lf.sg).length ≤ 65536 ∧ ((kgR c).psk).length ≤ 65536 ∧ ((kgR c).nonce).length ≤ 65536 ∧ ((kgR c).enc).length ≤ 65536 := by
  unfold kgR
  cases kgOk c with
  | false => simp only [cond_false]; exact ⟨Nat.zero_le _, Nat.zero_le _, Nat.zero_le _, Nat.zero_le _, Nat.zero_le _, Nat.zero_le _, Nat.zero_le _, Nat.zero_le _, Nat.zero_le _, Nat.zero_le _, Nat.zero_le _, Nat.zero_le _, Nat.zero_le _, Nat.zero_le _, Nat.zero_le _⟩
  | true =>
    simp only [cond_true]
    have g := gpR_len (kyV c).1; have l := glR_len (kyV c).1
    have hV : (kyV c).1.length ≤ 65536 := rVec_out _ _
    have hW : (kyW c).1.length ≤ 65536 := rVec_out _ _
    by_cases h1 : (kyA c).1 = 1
    · rw [(ky_1 h1).1]; refine ⟨?_, ?_, ?_, ?_, ?_, ?_, ?_, ?_, ?_, ?_, ?_, ?_, ?_, ?_, ?_⟩ <;> first | exact Nat.zero_le _ | (dsimp only; omega)
    · by_cases h2 : (kyA c).1 = 2
      · rw [(ky_2 h2).1]; refine ⟨?_, ?_, ?_, ?_, ?_, ?_, ?_, ?_, ?_, ?_, ?_, ?_, ?_, ?_, ?_⟩ <;> first | exact Nat.zero_le _ | (dsimp only; omega)
      · by_cases h3 : (kyA c).1 = 3
        · rw [(ky_3 h3).1]; refine ⟨?_, ?_, ?_, ?_, ?_, ?_, ?_, ?_, ?_, ?_, ?_, ?_, ?_, ?_, ?_⟩ <;> exact Nat.zero_le _
        · by_cases h4 : (kyA c).1 = 4
          · rw [(ky_4 h4).1]; refine ⟨?_, ?_, ?_, ?_, ?_, ?_, ?_, ?_, ?_, ?_, ?_, ?_, ?_, ?_, ?_⟩ <;> first | exact Nat.zero_le _ | (dsimp only; omega)
          · by_cases h6 : (kyA c).1 = 6
            · rw [(ky_6 h6).1]; refine ⟨?_, ?_, ?_, ?_, ?_, ?_, ?_, ?_, ?_, ?_, ?_, ?_, ?_, ?_, ?_⟩ <;> first | exact Nat.zero_le _ | (dsimp only; omega)
            · rw [(ky_n h1 h2 h3 h4 h6).1]; refine ⟨?_, ?_, ?_, ?_, ?_, ?_, ?_, ?_, ?_, ?_, ?_, ?_, ?_, ?_, ?_⟩ <;> exact Nat.zero_le _
theorem kgetx_any (v : Value) (x : Pr) (w : World) (hp : prOk x = true) (hv : RdB w v (bif prOk x then prB x else [])) : Rets Try.prog 9 [v] w (fun r w' => ∃ i e s n h g gg e2 s2 n2 h2 g2 y1 y2 y3, r = .tuple #[.agg [.int .i64 x.kind, i, e, s, n, .int .i64 x.pk.leaf.src, h, g, gg, e2, s2, n2, .int .i64 x.lf.src, h2, g2, .int .i64 x.ix, y1, y2, y3].toArray, .int .i64 0] ∧ OwnB w' w.heap.size i x.pk.init ∧ OwnB w' w.heap.size e x.pk.leaf.enc ∧ OwnB w' w.heap.size s x.pk.leaf.sig ∧ OwnB w' w.heap.size n x.pk.leaf.name ∧ OwnB w' w.heap.size h x.pk.leaf.hash ∧ OwnB w' w.heap.size g x.pk.leaf.sg ∧ OwnB w' w.heap.size gg x.pk.sg ∧ OwnB w' w.heap.size e2 x.lf.enc ∧ OwnB w' w.heap.size s2 x.lf.sig ∧ OwnB w' w.heap.size n2 x.lf.name ∧ OwnB w' w.heap.size h2 x.lf.hash ∧ OwnB w' w.heap.size g2 x.lf.sg ∧ OwnB w' w.heap.size y1 x.psk ∧ OwnB w' w.heap.size y2 x.nonce ∧ OwnB w' w.heap.size y3 x.enc ∧ Keep [] w w') := by
  have hb := kg_back hp
  have := kget_any v (prB x) w (rd_of hv (by rw [hp]; rfl)) (by have := prB_len hp; omega)
  rw [hb.1, hb.2] at this; exact this
attribute [local irreducible] prOk prB kgR kgE
set_option maxRecDepth 100000 in
set_option maxHeartbeats 1000000 in
theorem keysbytes_any (v : Value) (c : List UInt8) (i e s n h g gg e2 s2 n2 h2 g2 y1 y2 y3 : Value) (x : Pr) (w : World) (hi : RdB w i x.pk.init) (he : RdB w e x.pk.leaf.enc) (hs : RdB w s x.pk.leaf.sig) (hn : RdB w n x.pk.leaf.name) (hh : RdB w h x.pk.leaf.hash) (hg : RdB w g x.pk.leaf.sg) (hgg : RdB w gg x.pk.sg) (he2 : RdB w e2 x.lf.enc) (hs2 : RdB w s2 x.lf.sig) (hn2 : RdB w n2 x.lf.name) (hh2 : RdB w h2 x.lf.hash) (hg2 : RdB w g2 x.lf.sg) (hy1 : RdB w y1 x.psk) (hy2 : RdB w y2 x.nonce) (hy3 : RdB w y3 x.enc) (t0 : x.pk.init.length ≤ 140737488351232) (t1 : x.pk.leaf.enc.length ≤ 140737488351232) (t2 : x.pk.leaf.sig.length ≤ 140737488351232) (t3 : x.pk.leaf.name.length ≤ 140737488351232) (t4 : x.pk.leaf.hash.length ≤ 140737488351232) (t5 : x.pk.leaf.sg.length ≤ 140737488351232) (t6 : x.pk.sg.length ≤ 140737488351232) (t7 : x.lf.enc.length ≤ 140737488351232) (t8 : x.lf.sig.length ≤ 140737488351232) (t9 : x.lf.name.length ≤ 140737488351232) (t10 : x.lf.hash.length ≤ 140737488351232) (t11 : x.lf.sg.length ≤ 140737488351232) (t12 : x.psk.length ≤ 140737488351232) (t13 : x.nonce.length ≤ 140737488351232) (t14 : x.enc.length ≤ 140737488351232) (hv : RdB w v c) (hc : c.length ≤ 140737488351232) : Rets Try.prog 3 [.agg [.int .i64 x.kind, i, e, s, n, .int .i64 x.pk.leaf.src, h, g, gg, e2, s2, n2, .int .i64 x.lf.src, h2, g2, .int .i64 x.ix, y1, y2, y3].toArray, v] w (fun r w' => r = .bool true ∧ Keep [] w w') := by
 have hB : Keep [] w w := Keep.refl _ _
 refine rets_of_tw Try.func3 rfl (by decide) Try.ntmps3 rfl (fun fin _ hfin => ?_)
 refine tw_seq (tw_region (ow_d (d_box (cs := [.int .i64 x.kind, i, e, s, n, .int .i64 x.pk.leaf.src, h, g, gg, e2, s2, n2, .int .i64 x.lf.src, h2, g2, .int .i64 x.ix, y1, y2, y3]) rfl rfl) rfl ?_))
 rintro _ w1 ⟨b1, rfl, eb1, hb1, k1, z1⟩
 have ge_b1 : w.heap.size ≤ b1 := by have := hB.size; omega
 replace hB := hB.trans k1
 clear eb1 z1
 refine ow_g (g_as rfl) rfl (ow_nil (tw_seq (tw_region (ow_g (g_mv rfl) rfl (ow_d (d_call (vs := [_]) rfl (lent_any _ c _ (by first | assumption | exact Own.rd ‹_› | exact Rd.keep0 ‹_› hB | exact Own.rd (Own.keep0 ‹_› hB)) hc)) rfl ?_)))))
 rintro _ w2 ⟨u1, rfl, o1, k2⟩
 have gl_o1 := hB.size
 have sb_b1_o1 := fun x hx => (show x ≠ b1 from by have h1 := (o1.blk x hx).1; have h2 := hb1.lt; omega)
 replace hb1 := hb1.keep0 k2
 replace hB := hB.trans k2
 have u_o1 := o1.blk
 refine ow_g (g_as rfl) rfl (ow_nil (tw_seq (tw_region (ow_g (g_ldab (cs' := [_, _, _, _, _, _, _, _, _, _, _, _, _, _, _, _, _, _, _]) ag28 ty28 rfl hb1 rfl rfl) rfl ?_))))
 refine ow_d (d_call (vs := [_]) rfl (prcopy_any _ _ _ _ _ _ _ _ _ _ _ _ _ _ _ x _ (Rd.keep0 hi hB) (Rd.keep0 he hB) (Rd.keep0 hs hB) (Rd.keep0 hn hB) (Rd.keep0 hh hB) (Rd.keep0 hg hB) (Rd.keep0 hgg hB) (Rd.keep0 he2 hB) (Rd.keep0 hs2 hB) (Rd.keep0 hn2 hB) (Rd.keep0 hh2 hB) (Rd.keep0 hg2 hB) (Rd.keep0 hy1 hB) (Rd.keep0 hy2 hB) (Rd.keep0 hy3 hB) t0 t1 t2 t3 t4 t5 t6 t7 t8 t9 t10 t11 t12 t13 t14)) rfl ?_
 rintro _ w3 ⟨i1, e1, s1, n1, h1, g1, gg1, e21, s21, n21, h21, g21, y11, y21, y31, rfl, fi1, fe1, fs1, fn1, fh1, fg1, fgg1, fe21, fs21, fn21, fh21, fg21, fy11, fy21, fy31, k3⟩
 replace hb1 := hb1.keep0 k3
 replace o1 := o1.keep0 k3
 replace hB := hB.trans k3
 have hK1 : Keep [] w3 w3 := Keep.refl _ _
 refine ow_d (d_alloc ty34) rfl ?_
 rintro _ w4 ⟨b2, rfl, eb2, hb2, k4, z2⟩
 have gb_hK1_b2 : w3.heap.size ≤ b2 := by have := hK1.size; omega
 have ge_b2 : w.heap.size ≤ b2 := by have := hB.size; omega
 have ne_b1_b2 : b1 ≠ b2 := by have := hb1.lt; omega
 have sb_b2_o1 := fun x hx => (show x ≠ b2 from by have := (o1.blk x hx).2; omega)
 replace hb1 := hb1.keep0 k4
 replace o1 := o1.keep0 k4
 replace hB := hB.trans k4
 replace hK1 := hK1.trans k4
 clear eb2 z2
 refine ow_d0 (d_sta ty34 rfl rfl rfl (by simp only [List.forall_mem_cons]; exact ⟨rfl, (Rd.keep0 fi1.rd hK1).one, (Rd.keep0 fe1.rd hK1).one, (Rd.keep0 fs1.rd hK1).one, (Rd.keep0 fn1.rd hK1).one, rfl, (Rd.keep0 fh1.rd hK1).one, (Rd.keep0 fg1.rd hK1).one, (Rd.keep0 fgg1.rd hK1).one, (Rd.keep0 fe21.rd hK1).one, (Rd.keep0 fs21.rd hK1).one, (Rd.keep0 fn21.rd hK1).one, rfl, (Rd.keep0 fh21.rd hK1).one, (Rd.keep0 fg21.rd hK1).one, rfl, (Rd.keep0 fy11.rd hK1).one, (Rd.keep0 fy21.rd hK1).one, (Rd.keep0 fy31.rd hK1).one, fun v hv => by cases hv⟩) hb2 rfl) ?_
 rintro _ w5 ⟨hb3, k5, z3⟩
 replace hb1 := hb1.keep k5 (fun hm => absurd (List.mem_singleton.1 hm) ne_b1_b2)
 replace o1 := o1.keep k5 (fun x hx hm => sb_b2_o1 x hx (List.mem_singleton.1 hm))
 replace hB := hB.new k5 (fun x hx => .inl ((List.mem_singleton.1 hx) ▸ ge_b2))
 replace hK1 := hK1.new k5 (fun x hx => .inl ((List.mem_singleton.1 hx) ▸ gb_hK1_b2))
 clear z3
 replace hb3 : Bk w5 b2 _ [.int .i64 x.kind, i1, e1, s1, n1, .int .i64 x.pk.leaf.src, h1, g1, gg1, e21, s21, n21, .int .i64 x.lf.src, h21, g21, .int .i64 x.ix, y11, y21, y31] := hb3
 refine ow_nil (tw_seq (tw_region (ow_g (g_ldab (cs' := [_, _, _, _, _, _, _, _, _, _, _, _, _, _, _, _, _, _, _]) ag34 ty34 rfl hb3 rfl rfl) rfl ?_)))
 refine ow_d (d_call (vs := [_]) rfl (kput_any _ _ _ _ _ _ _ _ _ _ _ _ _ _ _ x _ (Rd.keep0 fi1.rd hK1) (Rd.keep0 fe1.rd hK1) (Rd.keep0 fs1.rd hK1) (Rd.keep0 fn1.rd hK1) (Rd.keep0 fh1.rd hK1) (Rd.keep0 fg1.rd hK1) (Rd.keep0 fgg1.rd hK1) (Rd.keep0 fe21.rd hK1) (Rd.keep0 fs21.rd hK1) (Rd.keep0 fn21.rd hK1) (Rd.keep0 fh21.rd hK1) (Rd.keep0 fg21.rd hK1) (Rd.keep0 fy11.rd hK1) (Rd.keep0 fy21.rd hK1) (Rd.keep0 fy31.rd hK1) t0 t1 t2 t3 t4 t5 t6 t7 t8 t9 t10 t11 t12 t13 t14)) rfl ?_
 rintro _ w6 ⟨u2, rfl, o2, k6⟩
 have gl_o2 := hB.size
 have sb_b1_o2 := fun x hx => (show x ≠ b1 from by have h1 := (o2.blk x hx).1; have h2 := hb1.lt; omega)
 have sb_b2_o2 := fun x hx => (show x ≠ b2 from by have h1 := (o2.blk x hx).1; have h2 := hb3.lt; omega)
 replace hb1 := hb1.keep0 k6
 replace o1 := o1.keep0 k6
 replace hb3 := hb3.keep0 k6
 replace hB := hB.trans k6
 have u_o2 := o2.blk
 replace hK1 := hK1.trans k6
 refine ow_g (g_mv rfl) rfl (ow_g (g_ext (vs := [_, _]) rfl rfl) rfl ?_)
 refine ow_g (g_ext (vs := [_, _]) rfl rfl) rfl ?_
 refine ow_g (g_as rfl) rfl (ow_g (g_as rfl) rfl (ow_nil (tw_keep [(1, _), (2, _), (5, _), (6, _), (7, _), (8, _)] ⟨rfl, rfl, rfl, rfl, rfl, rfl, trivial⟩ ?_)))
 refine tw_seq (tw_region (ow_g (g_ldab (cs' := [_, _, _, _, _, _, _, _, _, _, _, _, _, _, _, _, _, _, _]) ag28 ty28 rfl hb1 rfl rfl) rfl ?_))
 refine ow_d (d_call (vs := [_]) rfl (rput20_any _ _ _ _ _ _ _ _ _ _ _ _ _ _ _ x _ (Rd.keep0 hi hB) (Rd.keep0 he hB) (Rd.keep0 hs hB) (Rd.keep0 hn hB) (Rd.keep0 hh hB) (Rd.keep0 hg hB) (Rd.keep0 hgg hB) (Rd.keep0 he2 hB) (Rd.keep0 hs2 hB) (Rd.keep0 hn2 hB) (Rd.keep0 hh2 hB) (Rd.keep0 hg2 hB) (Rd.keep0 hy1 hB) (Rd.keep0 hy2 hB) (Rd.keep0 hy3 hB) t0 t1 t2 t3 t4 t5 t6 t7 t8 t9 t10 t11 t12 t13 t14)) rfl ?_
 rintro _ w7 ⟨u3, rfl, o3, k7⟩
 have gl_o3 := hB.size
 have sb_b1_o3 := fun x hx => (show x ≠ b1 from by have h1 := (o3.blk x hx).1; have h2 := hb1.lt; omega)
 have sb_b2_o3 := fun x hx => (show x ≠ b2 from by have h1 := (o3.blk x hx).1; have h2 := hb3.lt; omega)
 replace hb1 := hb1.keep0 k7
 replace o1 := o1.keep0 k7
 replace hb3 := hb3.keep0 k7
 replace o2 := o2.keep0 k7
 replace hB := hB.trans k7
 have u_o3 := o3.blk
 replace hK1 := hK1.trans k7
 refine ow_g (g_mv rfl) rfl (ow_g (g_ext (vs := [_, _]) rfl rfl) rfl ?_)
 refine ow_g (g_ext (vs := [_, _]) rfl rfl) rfl ?_
 refine ow_g (g_as rfl) rfl (ow_g (g_as rfl) rfl (ow_nil (tw_seq (tw_region (ow_g (g_mv rfl) rfl (ow_d (d_call (vs := [_]) rfl (kget_any _ c _ (lent_rd o1) hc)) rfl ?_))))))
 rintro _ w8 ⟨i2, e2, s2, n2, h2, g2, gg2, e22, s22, n22, h22, g22, y12, y22, y32, rfl, fi2, fe2, fs2, fn2, fh2, fg2, fgg2, fe22, fs22, fn22, fh22, fg22, fy12, fy22, fy32, k8⟩
 replace hb1 := hb1.keep0 k8
 replace o1 := o1.keep0 k8
 replace hb3 := hb3.keep0 k8
 replace o2 := o2.keep0 k8
 replace o3 := o3.keep0 k8
 replace hB := hB.trans k8
 replace hK1 := hK1.trans k8
 have hK2 : Keep [] w8 w8 := Keep.refl _ _
 refine ow_g (g_mv rfl) rfl (ow_g (g_ext (vs := [_, _]) rfl rfl) rfl ?_)
 refine ow_g (g_ext (vs := [_, _]) rfl rfl) rfl ?_
 refine ow_d (d_alloc ty34) rfl ?_
 rintro _ w9 ⟨b3, rfl, eb3, hb4, k9, z4⟩
 have gb_hK1_b3 : w3.heap.size ≤ b3 := by have := hK1.size; omega
 have gb_hK2_b3 : w8.heap.size ≤ b3 := by have := hK2.size; omega
 have ge_b3 : w.heap.size ≤ b3 := by have := hB.size; omega
 have ne_b1_b3 : b1 ≠ b3 := by have := hb1.lt; omega
 have sb_b3_o1 := fun x hx => (show x ≠ b3 from by have := (o1.blk x hx).2; omega)
 have ne_b2_b3 : b2 ≠ b3 := by have := hb3.lt; omega
 have sb_b3_o2 := fun x hx => (show x ≠ b3 from by have := (o2.blk x hx).2; omega)
 have sb_b3_o3 := fun x hx => (show x ≠ b3 from by have := (o3.blk x hx).2; omega)
 replace hb1 := hb1.keep0 k9
 replace o1 := o1.keep0 k9
 replace hb3 := hb3.keep0 k9
 replace o2 := o2.keep0 k9
 replace o3 := o3.keep0 k9
 replace hB := hB.trans k9
 replace hK1 := hK1.trans k9
 replace hK2 := hK2.trans k9
 clear eb3 z4
 refine ow_d0 (d_sta ty34 rfl rfl rfl (by simp only [List.forall_mem_cons]; exact ⟨rfl, (Rd.keep0 fi2.rd hK2).one, (Rd.keep0 fe2.rd hK2).one, (Rd.keep0 fs2.rd hK2).one, (Rd.keep0 fn2.rd hK2).one, rfl, (Rd.keep0 fh2.rd hK2).one, (Rd.keep0 fg2.rd hK2).one, (Rd.keep0 fgg2.rd hK2).one, (Rd.keep0 fe22.rd hK2).one, (Rd.keep0 fs22.rd hK2).one, (Rd.keep0 fn22.rd hK2).one, rfl, (Rd.keep0 fh22.rd hK2).one, (Rd.keep0 fg22.rd hK2).one, rfl, (Rd.keep0 fy12.rd hK2).one, (Rd.keep0 fy22.rd hK2).one, (Rd.keep0 fy32.rd hK2).one, fun v hv => by cases hv⟩) hb4 rfl) ?_
 rintro _ w10 ⟨hb5, k10, z5⟩
 replace hb1 := hb1.keep k10 (fun hm => absurd (List.mem_singleton.1 hm) ne_b1_b3)
 replace o1 := o1.keep k10 (fun x hx hm => sb_b3_o1 x hx (List.mem_singleton.1 hm))
 replace hb3 := hb3.keep k10 (fun hm => absurd (List.mem_singleton.1 hm) ne_b2_b3)
 replace o2 := o2.keep k10 (fun x hx hm => sb_b3_o2 x hx (List.mem_singleton.1 hm))
 replace o3 := o3.keep k10 (fun x hx hm => sb_b3_o3 x hx (List.mem_singleton.1 hm))
 replace hB := hB.new k10 (fun x hx => .inl ((List.mem_singleton.1 hx) ▸ ge_b3))
 replace hK1 := hK1.new k10 (fun x hx => .inl ((List.mem_singleton.1 hx) ▸ gb_hK1_b3))
 replace hK2 := hK2.new k10 (fun x hx => .inl ((List.mem_singleton.1 hx) ▸ gb_hK2_b3))
 clear z5
 replace hb5 : Bk w10 b3 _ [.int .i64 (kgR c).kind, i2, e2, s2, n2, .int .i64 (kgR c).pk.leaf.src, h2, g2, gg2, e22, s22, n22, .int .i64 (kgR c).lf.src, h22, g22, .int .i64 (kgR c).ix, y12, y22, y32] := hb5
 refine ow_g (g_as rfl) rfl (ow_nil (tw_keep [(1, _), (2, _), (5, _), (6, _), (7, _), (8, _), (9, _), (10, _), (11, _), (12, _)] ⟨rfl, rfl, rfl, rfl, rfl, rfl, rfl, rfl, rfl, rfl, trivial⟩ ?_))
 refine tw_seq (tw_region (ow_g (g_mv rfl) rfl (ow_d (d_call (vs := [_]) rfl (rget20_any _ c _ (by first | assumption | exact Own.rd ‹_› | exact Rd.keep0 ‹_› hB | exact Own.rd (Own.keep0 ‹_› hB)) hc)) rfl ?_)))
 rintro _ w11 ⟨i3, e3, s3, n3, h3, g3, gg3, e23, s23, n23, h23, g23, y13, y23, y33, rfl, fi3, fe3, fs3, fn3, fh3, fg3, fgg3, fe23, fs23, fn23, fh23, fg23, fy13, fy23, fy33, k11⟩
 replace hb1 := hb1.keep0 k11
 replace o1 := o1.keep0 k11
 replace hb3 := hb3.keep0 k11
 replace o2 := o2.keep0 k11
 replace o3 := o3.keep0 k11
 replace hb5 := hb5.keep0 k11
 replace hB := hB.trans k11
 replace hK1 := hK1.trans k11
 replace hK2 := hK2.trans k11
 have hK3 : Keep [] w11 w11 := Keep.refl _ _
 refine ow_g (g_mv rfl) rfl (ow_g (g_ext (vs := [_, _]) rfl rfl) rfl ?_)
 refine ow_g (g_ext (vs := [_, _]) rfl rfl) rfl ?_
 refine ow_d (d_alloc ty28) rfl ?_
 rintro _ w12 ⟨b4, rfl, eb4, hb6, k12, z6⟩
 have gb_hK1_b4 : w3.heap.size ≤ b4 := by have := hK1.size; omega
 have gb_hK2_b4 : w8.heap.size ≤ b4 := by have := hK2.size; omega
 have gb_hK3_b4 : w11.heap.size ≤ b4 := by have := hK3.size; omega
 have ge_b4 : w.heap.size ≤ b4 := by have := hB.size; omega
 have ne_b1_b4 : b1 ≠ b4 := by have := hb1.lt; omega
 have sb_b4_o1 := fun x hx => (show x ≠ b4 from by have := (o1.blk x hx).2; omega)
 have ne_b2_b4 : b2 ≠ b4 := by have := hb3.lt; omega
 have sb_b4_o2 := fun x hx => (show x ≠ b4 from by have := (o2.blk x hx).2; omega)
 have sb_b4_o3 := fun x hx => (show x ≠ b4 from by have := (o3.blk x hx).2; omega)
 have ne_b3_b4 : b3 ≠ b4 := by have := hb5.lt; omega
 replace hb1 := hb1.keep0 k12
 replace o1 := o1.keep0 k12
 replace hb3 := hb3.keep0 k12
 replace o2 := o2.keep0 k12
 replace o3 := o3.keep0 k12
 replace hb5 := hb5.keep0 k12
 replace hB := hB.trans k12
 replace hK1 := hK1.trans k12
 replace hK2 := hK2.trans k12
 replace hK3 := hK3.trans k12
 clear eb4 z6
 refine ow_d0 (d_sta ty28 rfl rfl rfl (by simp only [List.forall_mem_cons]; exact ⟨rfl, (Rd.keep0 fi3.rd hK3).one, (Rd.keep0 fe3.rd hK3).one, (Rd.keep0 fs3.rd hK3).one, (Rd.keep0 fn3.rd hK3).one, rfl, (Rd.keep0 fh3.rd hK3).one, (Rd.keep0 fg3.rd hK3).one, (Rd.keep0 fgg3.rd hK3).one, (Rd.keep0 fe23.rd hK3).one, (Rd.keep0 fs23.rd hK3).one, (Rd.keep0 fn23.rd hK3).one, rfl, (Rd.keep0 fh23.rd hK3).one, (Rd.keep0 fg23.rd hK3).one, rfl, (Rd.keep0 fy13.rd hK3).one, (Rd.keep0 fy23.rd hK3).one, (Rd.keep0 fy33.rd hK3).one, fun v hv => by cases hv⟩) hb6 rfl) ?_
 rintro _ w13 ⟨hb7, k13, z7⟩
 replace hb1 := hb1.keep k13 (fun hm => absurd (List.mem_singleton.1 hm) ne_b1_b4)
 replace o1 := o1.keep k13 (fun x hx hm => sb_b4_o1 x hx (List.mem_singleton.1 hm))
 replace hb3 := hb3.keep k13 (fun hm => absurd (List.mem_singleton.1 hm) ne_b2_b4)
 replace o2 := o2.keep k13 (fun x hx hm => sb_b4_o2 x hx (List.mem_singleton.1 hm))
 replace o3 := o3.keep k13 (fun x hx hm => sb_b4_o3 x hx (List.mem_singleton.1 hm))
 replace hb5 := hb5.keep k13 (fun hm => absurd (List.mem_singleton.1 hm) ne_b3_b4)
 replace hB := hB.new k13 (fun x hx => .inl ((List.mem_singleton.1 hx) ▸ ge_b4))
 replace hK1 := hK1.new k13 (fun x hx => .inl ((List.mem_singleton.1 hx) ▸ gb_hK1_b4))
 replace hK2 := hK2.new k13 (fun x hx => .inl ((List.mem_singleton.1 hx) ▸ gb_hK2_b4))
 replace hK3 := hK3.new k13 (fun x hx => .inl ((List.mem_singleton.1 hx) ▸ gb_hK3_b4))
 clear z7
 replace hb7 : Bk w13 b4 _ [.int .i64 (kgR c).kind, i3, e3, s3, n3, .int .i64 (kgR c).pk.leaf.src, h3, g3, gg3, e23, s23, n23, .int .i64 (kgR c).lf.src, h23, g23, .int .i64 (kgR c).ix, y13, y23, y33] := hb7
 refine ow_g (g_as rfl) rfl (ow_nil (tw_seq (tw_seq (tw_region (ow_g (g_mv rfl) rfl (ow_g (g_str Try.underlying22 Try.underlying5 Try.underlying9 rfl (by first | assumption | exact Own.rd ‹_› | exact Rd.keep0 ‹_› hB | exact Own.rd (Own.keep0 ‹_› hB))) rfl ?_))))))
 refine ow_g (g_mv rfl) rfl (ow_g (g_str Try.underlying22 Try.underlying5 Try.underlying9 rfl (by first | assumption | exact Own.rd ‹_› | exact Rd.keep0 ‹_› hB | exact Own.rd (Own.keep0 ‹_› hB))) rfl ?_)
 refine ow_g (g_nes rfl rfl) rfl ?_
 refine ow_g (g_mv rfl) rfl (ow_gy (grdT rfl rfl rfl (decide_eq_false (fun h => h rfl))) (g_mv rfl) rfl ?_)
 refine ow_dy (grdT rfl rfl rfl (decide_eq_false (fun h => h rfl))) (d_call (vs := [_]) rfl (knum_any _ _)) rfl ?_
 rintro _ _ ⟨rfl, rfl⟩
 refine ow_gy (grdT rfl rfl rfl (decide_eq_false (fun h => h rfl))) (g_mv rfl) rfl ?_
 refine ow_gy (grdT rfl rfl rfl (decide_eq_false (fun h => h rfl))) (g_ne rfl rfl) rfl ?_
 refine ow_g (g_pickF rfl (decide_eq_false (fun h => h rfl)) rfl) rfl ?_
 refine ow_g (g_mv rfl) rfl (ow_gy (grdT rfl rfl rfl (decide_eq_false (fun h => h rfl))) (g_ldab (cs' := [_, _, _, _, _, _, _, _, _, _, _, _, _, _, _, _, _, _, _]) ag34 ty34 rfl hb5 rfl rfl) rfl ?_)
 refine ow_gy (grdT rfl rfl rfl (decide_eq_false (fun h => h rfl))) (g_ldab (cs' := [_, _, _, _, _, _, _, _, _, _, _, _, _, _, _, _, _, _, _]) ag28 ty28 rfl hb7 rfl rfl) rfl ?_
 refine ow_dy (grdT rfl rfl rfl (decide_eq_false (fun h => h rfl))) (d_call (vs := [_, _]) rfl (samePr_any _ _ _ _ _ _ _ _ _ _ _ _ _ _ _ (kgR c) _ (Rd.keep0 fi2.rd hK2) (Rd.keep0 fe2.rd hK2) (Rd.keep0 fs2.rd hK2) (Rd.keep0 fn2.rd hK2) (Rd.keep0 fh2.rd hK2) (Rd.keep0 fg2.rd hK2) (Rd.keep0 fgg2.rd hK2) (Rd.keep0 fe22.rd hK2) (Rd.keep0 fs22.rd hK2) (Rd.keep0 fn22.rd hK2) (Rd.keep0 fh22.rd hK2) (Rd.keep0 fg22.rd hK2) (Rd.keep0 fy12.rd hK2) (Rd.keep0 fy22.rd hK2) (Rd.keep0 fy32.rd hK2) _ _ _ _ _ _ _ _ _ _ _ _ _ _ _ (Rd.keep0 fi3.rd hK3) (Rd.keep0 fe3.rd hK3) (Rd.keep0 fs3.rd hK3) (Rd.keep0 fn3.rd hK3) (Rd.keep0 fh3.rd hK3) (Rd.keep0 fg3.rd hK3) (Rd.keep0 fgg3.rd hK3) (Rd.keep0 fe23.rd hK3) (Rd.keep0 fs23.rd hK3) (Rd.keep0 fn23.rd hK3) (Rd.keep0 fh23.rd hK3) (Rd.keep0 fg23.rd hK3) (Rd.keep0 fy13.rd hK3) (Rd.keep0 fy23.rd hK3) (Rd.keep0 fy33.rd hK3))) rfl ?_
 rintro _ w14 ⟨rfl, k14⟩
 replace hb1 := hb1.keep0 k14
 replace o1 := o1.keep0 k14
 replace hb3 := hb3.keep0 k14
 replace o2 := o2.keep0 k14
 replace o3 := o3.keep0 k14
 replace hb5 := hb5.keep0 k14
 replace hb7 := hb7.keep0 k14
 replace hB := hB.trans k14
 replace hK1 := hK1.trans k14
 replace hK2 := hK2.trans k14
 replace hK3 := hK3.trans k14
 refine ow_gy (grdT rfl rfl rfl (decide_eq_false (fun h => h rfl))) (g_not rfl) rfl ?_
 refine ow_g (g_pickF rfl (decide_eq_false (fun h => h rfl)) rfl) rfl ?_
 refine ow_g (g_mv rfl) rfl (ow_gy (grdT rfl rfl rfl rfl) (g_mv rfl) rfl ?_)
 refine ow_dy (grdT rfl rfl rfl rfl) (d_call (vs := [_]) rfl (knum_any _ _)) rfl ?_
 rintro _ _ ⟨rfl, rfl⟩
 refine ow_gy (grdT rfl rfl rfl rfl) (g_mv rfl) rfl ?_
 refine ow_gy (grdT rfl rfl rfl rfl) (g_ne rfl rfl) rfl ?_
 refine ow_g (g_pickF rfl rfl rfl) rfl ?_
 refine ow_g (g_mv rfl) rfl (ow_gy (grdT rfl rfl rfl (decide_eq_false (fun h => h rfl))) (g_ldab (cs' := [_, _, _, _, _, _, _, _, _, _, _, _, _, _, _, _, _, _, _]) ag34 ty34 rfl hb3 rfl rfl) rfl ?_)
 refine ow_gy (grdT rfl rfl rfl (decide_eq_false (fun h => h rfl))) (g_ldab (cs' := [_, _, _, _, _, _, _, _, _, _, _, _, _, _, _, _, _, _, _]) ag28 ty28 rfl hb1 rfl rfl) rfl ?_
 refine ow_dy (grdT rfl rfl rfl (decide_eq_false (fun h => h rfl))) (d_call (vs := [_, _]) rfl (samePr_any _ _ _ _ _ _ _ _ _ _ _ _ _ _ _ x _ (Rd.keep0 fi1.rd hK1) (Rd.keep0 fe1.rd hK1) (Rd.keep0 fs1.rd hK1) (Rd.keep0 fn1.rd hK1) (Rd.keep0 fh1.rd hK1) (Rd.keep0 fg1.rd hK1) (Rd.keep0 fgg1.rd hK1) (Rd.keep0 fe21.rd hK1) (Rd.keep0 fs21.rd hK1) (Rd.keep0 fn21.rd hK1) (Rd.keep0 fh21.rd hK1) (Rd.keep0 fg21.rd hK1) (Rd.keep0 fy11.rd hK1) (Rd.keep0 fy21.rd hK1) (Rd.keep0 fy31.rd hK1) _ _ _ _ _ _ _ _ _ _ _ _ _ _ _ (Rd.keep0 hi hB) (Rd.keep0 he hB) (Rd.keep0 hs hB) (Rd.keep0 hn hB) (Rd.keep0 hh hB) (Rd.keep0 hg hB) (Rd.keep0 hgg hB) (Rd.keep0 he2 hB) (Rd.keep0 hs2 hB) (Rd.keep0 hn2 hB) (Rd.keep0 hh2 hB) (Rd.keep0 hg2 hB) (Rd.keep0 hy1 hB) (Rd.keep0 hy2 hB) (Rd.keep0 hy3 hB))) rfl ?_
 rintro _ w15 ⟨rfl, k15⟩
 replace hb1 := hb1.keep0 k15
 replace o1 := o1.keep0 k15
 replace hb3 := hb3.keep0 k15
 replace o2 := o2.keep0 k15
 replace o3 := o3.keep0 k15
 replace hb5 := hb5.keep0 k15
 replace hb7 := hb7.keep0 k15
 replace hB := hB.trans k15
 replace hK1 := hK1.trans k15
 replace hK2 := hK2.trans k15
 replace hK3 := hK3.trans k15
 refine ow_gy (grdT rfl rfl rfl (decide_eq_false (fun h => h rfl))) (g_not rfl) rfl ?_
 refine ow_g (g_pickF rfl (decide_eq_false (fun h => h rfl)) rfl) rfl ?_
 refine ow_g (g_mv rfl) rfl (ow_gy (grdT rfl rfl rfl rfl) (g_mv rfl) rfl ?_)
 refine ow_gy (grdT rfl rfl rfl rfl) (g_mv rfl) rfl ?_
 refine ow_dy (grdT rfl rfl rfl rfl) (d_call (vs := [_, _]) rfl (stays_any _ _ c _ _ o1 (by first | assumption | exact Own.rd ‹_› | exact Rd.keep0 ‹_› hB | exact Own.rd (Own.keep0 ‹_› hB)) hc)) rfl ?_
 rintro _ w16 ⟨rfl, k16⟩
 replace hb1 := hb1.keep0 k16
 replace o1 := o1.keep0 k16
 replace hb3 := hb3.keep0 k16
 replace o2 := o2.keep0 k16
 replace o3 := o3.keep0 k16
 replace hb5 := hb5.keep0 k16
 replace hb7 := hb7.keep0 k16
 replace hB := hB.trans k16
 replace hK1 := hK1.trans k16
 replace hK2 := hK2.trans k16
 replace hK3 := hK3.trans k16
 refine ow_gy (grdT rfl rfl rfl rfl) (g_not rfl) rfl ?_
 refine ow_g (g_pickF rfl rfl rfl) rfl ?_
 refine ow_nil (tw_keep [(1, _), (2, _), (7, _), (8, _), (11, _), (12, _), (77, _)] ⟨rfl, rfl, rfl, rfl, rfl, rfl, rfl, trivial⟩ ?_)
 refine tw_condF rfl (rfl) ?_
 refine tw_skip (tw_seq (tw_seq (tw_region (ow_g (g_mv rfl) rfl (ow_d (d_call (vs := [_]) rfl (knum_any _ _)) rfl ?_)))))
 rintro _ _ ⟨rfl, rfl⟩
 refine ow_g (g_eq rfl rfl) rfl ?_
 refine ow_nil (tw_if rfl (fun hc1 => ?_) (fun hc1 => ?_))
 ·
  refine tw_seq (tw_region ?_)
  have hpx : prOk x = true := by
   cases hq : prOk x with
   | true => rfl
   | false => rw [hq] at hc1; exact absurd hc1 (by decide)
  refine ow_g (g_mv rfl) rfl (ow_d (d_call (vs := [_]) rfl (kgetx_any _ x _ hpx o2.rd)) rfl ?_)
  rintro _ w17 ⟨i4, e4, s4, n4, h4, g4, gg4, e24, s24, n24, h24, g24, y14, y24, y34, rfl, fi4, fe4, fs4, fn4, fh4, fg4, fgg4, fe24, fs24, fn24, fh24, fg24, fy14, fy24, fy34, k17⟩
  replace hb1 := hb1.keep0 k17
  replace o1 := o1.keep0 k17
  replace o2 := o2.keep0 k17
  replace o3 := o3.keep0 k17
  replace hb5 := hb5.keep0 k17
  replace hB := hB.trans k17
  replace hK1 := hK1.trans k17
  replace hK2 := hK2.trans k17
  replace hK3 := hK3.trans k17
  have hK4 : Keep [] w17 w17 := Keep.refl _ _
  refine ow_g (g_mv rfl) rfl (ow_g (g_ext (vs := [_, _]) rfl rfl) rfl ?_)
  refine ow_g (g_ext (vs := [_, _]) rfl rfl) rfl ?_
  refine ow_d (d_alloc ty34) rfl ?_
  rintro _ w18 ⟨b5, rfl, eb5, hb8, k18, z8⟩
  have gb_hK1_b5 : w3.heap.size ≤ b5 := by have := hK1.size; omega
  have gb_hK2_b5 : w8.heap.size ≤ b5 := by have := hK2.size; omega
  have gb_hK3_b5 : w11.heap.size ≤ b5 := by have := hK3.size; omega
  have gb_hK4_b5 : w17.heap.size ≤ b5 := by have := hK4.size; omega
  have ge_b5 : w.heap.size ≤ b5 := by have := hB.size; omega
  have ne_b1_b5 : b1 ≠ b5 := by have := hb1.lt; omega
  have sb_b5_o1 := fun x hx => (show x ≠ b5 from by have := (o1.blk x hx).2; omega)
  have sb_b5_o2 := fun x hx => (show x ≠ b5 from by have := (o2.blk x hx).2; omega)
  have sb_b5_o3 := fun x hx => (show x ≠ b5 from by have := (o3.blk x hx).2; omega)
  have ne_b3_b5 : b3 ≠ b5 := by have := hb5.lt; omega
  replace hb1 := hb1.keep0 k18
  replace o1 := o1.keep0 k18
  replace o2 := o2.keep0 k18
  replace o3 := o3.keep0 k18
  replace hb5 := hb5.keep0 k18
  replace hB := hB.trans k18
  replace hK1 := hK1.trans k18
  replace hK2 := hK2.trans k18
  replace hK3 := hK3.trans k18
  replace hK4 := hK4.trans k18
  clear eb5 z8
  refine ow_d0 (d_sta ty34 rfl rfl rfl (by simp only [List.forall_mem_cons]; exact ⟨rfl, (Rd.keep0 fi4.rd hK4).one, (Rd.keep0 fe4.rd hK4).one, (Rd.keep0 fs4.rd hK4).one, (Rd.keep0 fn4.rd hK4).one, rfl, (Rd.keep0 fh4.rd hK4).one, (Rd.keep0 fg4.rd hK4).one, (Rd.keep0 fgg4.rd hK4).one, (Rd.keep0 fe24.rd hK4).one, (Rd.keep0 fs24.rd hK4).one, (Rd.keep0 fn24.rd hK4).one, rfl, (Rd.keep0 fh24.rd hK4).one, (Rd.keep0 fg24.rd hK4).one, rfl, (Rd.keep0 fy14.rd hK4).one, (Rd.keep0 fy24.rd hK4).one, (Rd.keep0 fy34.rd hK4).one, fun v hv => by cases hv⟩) hb8 rfl) ?_
  rintro _ w19 ⟨hb9, k19, z9⟩
  replace hb1 := hb1.keep k19 (fun hm => absurd (List.mem_singleton.1 hm) ne_b1_b5)
  replace o1 := o1.keep k19 (fun x hx hm => sb_b5_o1 x hx (List.mem_singleton.1 hm))
  replace o2 := o2.keep k19 (fun x hx hm => sb_b5_o2 x hx (List.mem_singleton.1 hm))
  replace o3 := o3.keep k19 (fun x hx hm => sb_b5_o3 x hx (List.mem_singleton.1 hm))
  replace hb5 := hb5.keep k19 (fun hm => absurd (List.mem_singleton.1 hm) ne_b3_b5)
  replace hB := hB.new k19 (fun x hx => .inl ((List.mem_singleton.1 hx) ▸ ge_b5))
  replace hK1 := hK1.new k19 (fun x hx => .inl ((List.mem_singleton.1 hx) ▸ gb_hK1_b5))
  replace hK2 := hK2.new k19 (fun x hx => .inl ((List.mem_singleton.1 hx) ▸ gb_hK2_b5))
  replace hK3 := hK3.new k19 (fun x hx => .inl ((List.mem_singleton.1 hx) ▸ gb_hK3_b5))
  replace hK4 := hK4.new k19 (fun x hx => .inl ((List.mem_singleton.1 hx) ▸ gb_hK4_b5))
  clear z9
  replace hb9 : Bk w19 b5 _ [.int .i64 x.kind, i4, e4, s4, n4, .int .i64 x.pk.leaf.src, h4, g4, gg4, e24, s24, n24, .int .i64 x.lf.src, h24, g24, .int .i64 x.ix, y14, y24, y34] := hb9
  refine ow_g (g_as rfl) rfl (ow_nil (tw_keep [(1, _), (2, _), (11, _), (12, _), (15, _), (16, _)] ⟨rfl, rfl, rfl, rfl, rfl, rfl, trivial⟩ ?_))
  refine tw_seq (tw_region (ow_g (g_mv rfl) rfl (ow_d (d_call (vs := [_]) rfl (knum_any _ _)) rfl ?_)))
  rintro _ _ ⟨rfl, rfl⟩
  refine ow_g (g_ne rfl rfl) rfl ?_
  refine ow_g (g_mv rfl) rfl (ow_gy (grdT rfl rfl rfl (decide_eq_false (fun h => h rfl))) (g_ldab (cs' := [_, _, _, _, _, _, _, _, _, _, _, _, _, _, _, _, _, _, _]) ag34 ty34 rfl hb9 rfl rfl) rfl ?_)
  refine ow_gy (grdT rfl rfl rfl (decide_eq_false (fun h => h rfl))) (g_ldab (cs' := [_, _, _, _, _, _, _, _, _, _, _, _, _, _, _, _, _, _, _]) ag28 ty28 rfl hb1 rfl rfl) rfl ?_
  refine ow_dy (grdT rfl rfl rfl (decide_eq_false (fun h => h rfl))) (d_call (vs := [_, _]) rfl (samePr_any _ _ _ _ _ _ _ _ _ _ _ _ _ _ _ x _ (Rd.keep0 fi4.rd hK4) (Rd.keep0 fe4.rd hK4) (Rd.keep0 fs4.rd hK4) (Rd.keep0 fn4.rd hK4) (Rd.keep0 fh4.rd hK4) (Rd.keep0 fg4.rd hK4) (Rd.keep0 fgg4.rd hK4) (Rd.keep0 fe24.rd hK4) (Rd.keep0 fs24.rd hK4) (Rd.keep0 fn24.rd hK4) (Rd.keep0 fh24.rd hK4) (Rd.keep0 fg24.rd hK4) (Rd.keep0 fy14.rd hK4) (Rd.keep0 fy24.rd hK4) (Rd.keep0 fy34.rd hK4) _ _ _ _ _ _ _ _ _ _ _ _ _ _ _ (Rd.keep0 hi hB) (Rd.keep0 he hB) (Rd.keep0 hs hB) (Rd.keep0 hn hB) (Rd.keep0 hh hB) (Rd.keep0 hg hB) (Rd.keep0 hgg hB) (Rd.keep0 he2 hB) (Rd.keep0 hs2 hB) (Rd.keep0 hn2 hB) (Rd.keep0 hh2 hB) (Rd.keep0 hg2 hB) (Rd.keep0 hy1 hB) (Rd.keep0 hy2 hB) (Rd.keep0 hy3 hB))) rfl ?_
  rintro _ w20 ⟨rfl, k20⟩
  replace hb1 := hb1.keep0 k20
  replace o1 := o1.keep0 k20
  replace o2 := o2.keep0 k20
  replace o3 := o3.keep0 k20
  replace hb5 := hb5.keep0 k20
  replace hb9 := hb9.keep0 k20
  replace hB := hB.trans k20
  replace hK1 := hK1.trans k20
  replace hK2 := hK2.trans k20
  replace hK3 := hK3.trans k20
  replace hK4 := hK4.trans k20
  refine ow_gy (grdT rfl rfl rfl (decide_eq_false (fun h => h rfl))) (g_not rfl) rfl ?_
  refine ow_g (g_pickF rfl (decide_eq_false (fun h => h rfl)) rfl) rfl ?_
  refine ow_nil (tw_keep [(1, _), (11, _), (12, _), (94, _)] ⟨rfl, rfl, rfl, rfl, trivial⟩ ?_)
  refine tw_condF rfl (rfl) ?_
  refine tw_skip (tw_seq (tw_seq (tw_region (ow_g (g_mv rfl) rfl (ow_d (d_call (vs := [_]) rfl (knum_any _ _)) rfl ?_)))))
  rintro _ _ ⟨rfl, rfl⟩
  refine ow_g (g_eq rfl rfl) rfl ?_
  refine ow_nil (tw_if rfl (fun hc2 => ?_) (fun hc2 => ?_))
  ·
   refine tw_seq (tw_region ?_)
   have hgp := kg_put (c := c) ‹_›
   refine ow_g (g_ldab (cs' := [_, _, _, _, _, _, _, _, _, _, _, _, _, _, _, _, _, _, _]) ag34 ty34 rfl hb5 rfl rfl) rfl ?_
   refine ow_d (d_call (vs := [_]) rfl (kput_any _ _ _ _ _ _ _ _ _ _ _ _ _ _ _ (kgR c) _ (Rd.keep0 fi2.rd hK2) (Rd.keep0 fe2.rd hK2) (Rd.keep0 fs2.rd hK2) (Rd.keep0 fn2.rd hK2) (Rd.keep0 fh2.rd hK2) (Rd.keep0 fg2.rd hK2) (Rd.keep0 fgg2.rd hK2) (Rd.keep0 fe22.rd hK2) (Rd.keep0 fs22.rd hK2) (Rd.keep0 fn22.rd hK2) (Rd.keep0 fh22.rd hK2) (Rd.keep0 fg22.rd hK2) (Rd.keep0 fy12.rd hK2) (Rd.keep0 fy22.rd hK2) (Rd.keep0 fy32.rd hK2) (Nat.le_trans (kgR_len c).1 (by decide)) (Nat.le_trans (kgR_len c).2.1 (by decide)) (Nat.le_trans (kgR_len c).2.2.1 (by decide)) (Nat.le_trans (kgR_len c).2.2.2.1 (by decide)) (Nat.le_trans (kgR_len c).2.2.2.2.1 (by decide)) (Nat.le_trans (kgR_len c).2.2.2.2.2.1 (by decide)) (Nat.le_trans (kgR_len c).2.2.2.2.2.2.1 (by decide)) (Nat.le_trans (kgR_len c).2.2.2.2.2.2.2.1 (by decide)) (Nat.le_trans (kgR_len c).2.2.2.2.2.2.2.2.1 (by decide)) (Nat.le_trans (kgR_len c).2.2.2.2.2.2.2.2.2.1 (by decide)) (Nat.le_trans (kgR_len c).2.2.2.2.2.2.2.2.2.2.1 (by decide)) (Nat.le_trans (kgR_len c).2.2.2.2.2.2.2.2.2.2.2.1 (by decide)) (Nat.le_trans (kgR_len c).2.2.2.2.2.2.2.2.2.2.2.2.1 (by decide)) (Nat.le_trans (kgR_len c).2.2.2.2.2.2.2.2.2.2.2.2.2.1 (by decide)) (Nat.le_trans (kgR_len c).2.2.2.2.2.2.2.2.2.2.2.2.2.2 (by decide)))) rfl ?_
   rintro _ w21 ⟨u4, rfl, o4, k21⟩
   have gl_o4 := hB.size
   have sb_b3_o4 := fun x hx => (show x ≠ b3 from by have h1 := (o4.blk x hx).1; have h2 := hb5.lt; omega)
   replace o1 := o1.keep0 k21
   replace o2 := o2.keep0 k21
   replace o3 := o3.keep0 k21
   replace hb5 := hb5.keep0 k21
   replace hB := hB.trans k21
   have u_o4 := o4.blk
   replace hK1 := hK1.trans k21
   replace hK2 := hK2.trans k21
   replace hK3 := hK3.trans k21
   replace hK4 := hK4.trans k21
   refine ow_g (g_mv rfl) rfl (ow_g (g_ext (vs := [_, _]) rfl rfl) rfl ?_)
   refine ow_g (g_ext (vs := [_, _]) rfl rfl) rfl ?_
   refine ow_g (g_as rfl) rfl (ow_g (g_as rfl) rfl (ow_nil (tw_keep [(1, _), (17, _), (18, _)] ⟨rfl, rfl, rfl, trivial⟩ ?_)))
   refine tw_seq (tw_region (ow_g (g_mv rfl) rfl (ow_d (d_call (vs := [_]) rfl (knum_any _ _)) rfl ?_)))
   rintro _ _ ⟨rfl, rfl⟩
   refine ow_g (g_ne rfl rfl) rfl ?_
   refine ow_g (g_mv rfl) rfl (ow_gy (grdT rfl rfl rfl (decide_eq_false (fun h => h (by rw [hgp.1]; rfl)))) (g_mv rfl) rfl ?_)
   refine ow_gy (grdT rfl rfl rfl (decide_eq_false (fun h => h (by rw [hgp.1]; rfl)))) (g_str Try.underlying22 Try.underlying5 Try.underlying9 rfl (by first | assumption | exact Own.rd ‹_› | exact Rd.keep0 ‹_› hB | exact Own.rd (Own.keep0 ‹_› hB))) rfl ?_
   refine ow_gy (grdT rfl rfl rfl (decide_eq_false (fun h => h (by rw [hgp.1]; rfl)))) (g_mv rfl) rfl ?_
   refine ow_gy (grdT rfl rfl rfl (decide_eq_false (fun h => h (by rw [hgp.1]; rfl)))) (g_str Try.underlying22 Try.underlying5 Try.underlying9 rfl (by first | assumption | exact Own.rd ‹_› | exact Rd.keep0 ‹_› hB | exact Own.rd (Own.keep0 ‹_› hB))) rfl ?_
   refine ow_gy (grdT rfl rfl rfl (decide_eq_false (fun h => h (by rw [hgp.1]; rfl)))) (g_nes rfl rfl) rfl ?_
   refine ow_g (g_pickF rfl (decide_eq_false (fun h => h (by rw [hgp.1]; rfl))) rfl) rfl ?_
   refine ow_nil (tw_keep [(112, _)] ⟨rfl, trivial⟩ ?_)
   refine tw_ifF rfl ((fun h => h (by rw [hgp.1]; exact hgp.2))) ?_
   refine tw_skip (tw_seq (tw_region (ow_d (d_call (vs := []) rfl (kknows_any _)) rfl ?_)))
   rintro _ w22 ⟨rfl, k22⟩
   replace o1 := o1.keep0 k22
   replace o2 := o2.keep0 k22
   replace o3 := o3.keep0 k22
   replace o4 := o4.keep0 k22
   replace hB := hB.trans k22
   replace hK1 := hK1.trans k22
   replace hK2 := hK2.trans k22
   replace hK3 := hK3.trans k22
   replace hK4 := hK4.trans k22
   refine ow_g (g_as rfl) rfl (ow_nil (tw_ret1 hfin Try.results3 rfl ?_))
   exact ⟨rfl, hB⟩
  ·
   refine tw_skip (tw_seq (tw_region (ow_d (d_call (vs := []) rfl (kknows_any _)) rfl ?_)))
   rintro _ w23 ⟨rfl, k23⟩
   replace o1 := o1.keep0 k23
   replace o2 := o2.keep0 k23
   replace o3 := o3.keep0 k23
   replace hb5 := hb5.keep0 k23
   replace hB := hB.trans k23
   replace hK1 := hK1.trans k23
   replace hK2 := hK2.trans k23
   replace hK3 := hK3.trans k23
   replace hK4 := hK4.trans k23
   refine ow_g (g_as rfl) rfl (ow_nil (tw_ret1 hfin Try.results3 rfl ?_))
   exact ⟨rfl, hB⟩
 ·
  refine tw_skip (tw_seq (tw_seq (tw_region (ow_g (g_mv rfl) rfl (ow_d (d_call (vs := [_]) rfl (knum_any _ _)) rfl ?_)))))
  rintro _ _ ⟨rfl, rfl⟩
  refine ow_g (g_eq rfl rfl) rfl ?_
  refine ow_nil (tw_keep [(1, _), (11, _), (97, _)] ⟨rfl, rfl, rfl, trivial⟩ ?_)
  refine tw_if rfl (fun hc3 => ?_) (fun hc3 => ?_)
  ·
   refine tw_seq (tw_region ?_)
   have hgp := kg_put (c := c) ‹_›
   refine ow_g (g_ldab (cs' := [_, _, _, _, _, _, _, _, _, _, _, _, _, _, _, _, _, _, _]) ag34 ty34 rfl hb5 rfl rfl) rfl ?_
   refine ow_d (d_call (vs := [_]) rfl (kput_any _ _ _ _ _ _ _ _ _ _ _ _ _ _ _ (kgR c) _ (Rd.keep0 fi2.rd hK2) (Rd.keep0 fe2.rd hK2) (Rd.keep0 fs2.rd hK2) (Rd.keep0 fn2.rd hK2) (Rd.keep0 fh2.rd hK2) (Rd.keep0 fg2.rd hK2) (Rd.keep0 fgg2.rd hK2) (Rd.keep0 fe22.rd hK2) (Rd.keep0 fs22.rd hK2) (Rd.keep0 fn22.rd hK2) (Rd.keep0 fh22.rd hK2) (Rd.keep0 fg22.rd hK2) (Rd.keep0 fy12.rd hK2) (Rd.keep0 fy22.rd hK2) (Rd.keep0 fy32.rd hK2) (Nat.le_trans (kgR_len c).1 (by decide)) (Nat.le_trans (kgR_len c).2.1 (by decide)) (Nat.le_trans (kgR_len c).2.2.1 (by decide)) (Nat.le_trans (kgR_len c).2.2.2.1 (by decide)) (Nat.le_trans (kgR_len c).2.2.2.2.1 (by decide)) (Nat.le_trans (kgR_len c).2.2.2.2.2.1 (by decide)) (Nat.le_trans (kgR_len c).2.2.2.2.2.2.1 (by decide)) (Nat.le_trans (kgR_len c).2.2.2.2.2.2.2.1 (by decide)) (Nat.le_trans (kgR_len c).2.2.2.2.2.2.2.2.1 (by decide)) (Nat.le_trans (kgR_len c).2.2.2.2.2.2.2.2.2.1 (by decide)) (Nat.le_trans (kgR_len c).2.2.2.2.2.2.2.2.2.2.1 (by decide)) (Nat.le_trans (kgR_len c).2.2.2.2.2.2.2.2.2.2.2.1 (by decide)) (Nat.le_trans (kgR_len c).2.2.2.2.2.2.2.2.2.2.2.2.1 (by decide)) (Nat.le_trans (kgR_len c).2.2.2.2.2.2.2.2.2.2.2.2.2.1 (by decide)) (Nat.le_trans (kgR_len c).2.2.2.2.2.2.2.2.2.2.2.2.2.2 (by decide)))) rfl ?_
   rintro _ w24 ⟨u5, rfl, o5, k24⟩
   have gl_o5 := hB.size
   have sb_b3_o5 := fun x hx => (show x ≠ b3 from by have h1 := (o5.blk x hx).1; have h2 := hb5.lt; omega)
   replace o1 := o1.keep0 k24
   replace o2 := o2.keep0 k24
   replace o3 := o3.keep0 k24
   replace hb5 := hb5.keep0 k24
   replace hB := hB.trans k24
   have u_o5 := o5.blk
   replace hK1 := hK1.trans k24
   replace hK2 := hK2.trans k24
   replace hK3 := hK3.trans k24
   refine ow_g (g_mv rfl) rfl (ow_g (g_ext (vs := [_, _]) rfl rfl) rfl ?_)
   refine ow_g (g_ext (vs := [_, _]) rfl rfl) rfl ?_
   refine ow_g (g_as rfl) rfl (ow_g (g_as rfl) rfl (ow_nil (tw_seq (tw_region (ow_g (g_mv rfl) rfl (ow_d (d_call (vs := [_]) rfl (knum_any _ _)) rfl ?_))))))
   rintro _ _ ⟨rfl, rfl⟩
   refine ow_g (g_ne rfl rfl) rfl ?_
   refine ow_g (g_mv rfl) rfl (ow_gy (grdT rfl rfl rfl (decide_eq_false (fun h => h (by rw [hgp.1]; rfl)))) (g_mv rfl) rfl ?_)
   refine ow_gy (grdT rfl rfl rfl (decide_eq_false (fun h => h (by rw [hgp.1]; rfl)))) (g_str Try.underlying22 Try.underlying5 Try.underlying9 rfl (by first | assumption | exact Own.rd ‹_› | exact Rd.keep0 ‹_› hB | exact Own.rd (Own.keep0 ‹_› hB))) rfl ?_
   refine ow_gy (grdT rfl rfl rfl (decide_eq_false (fun h => h (by rw [hgp.1]; rfl)))) (g_mv rfl) rfl ?_
   refine ow_gy (grdT rfl rfl rfl (decide_eq_false (fun h => h (by rw [hgp.1]; rfl)))) (g_str Try.underlying22 Try.underlying5 Try.underlying9 rfl (by first | assumption | exact Own.rd ‹_› | exact Rd.keep0 ‹_› hB | exact Own.rd (Own.keep0 ‹_› hB))) rfl ?_
   refine ow_gy (grdT rfl rfl rfl (decide_eq_false (fun h => h (by rw [hgp.1]; rfl)))) (g_nes rfl rfl) rfl ?_
   refine ow_g (g_pickF rfl (decide_eq_false (fun h => h (by rw [hgp.1]; rfl))) rfl) rfl ?_
   refine ow_nil (tw_keep [(112, _)] ⟨rfl, trivial⟩ ?_)
   refine tw_ifF rfl ((fun h => h (by rw [hgp.1]; exact hgp.2))) ?_
   refine tw_skip (tw_seq (tw_region (ow_d (d_call (vs := []) rfl (kknows_any _)) rfl ?_)))
   rintro _ w25 ⟨rfl, k25⟩
   replace o1 := o1.keep0 k25
   replace o2 := o2.keep0 k25
   replace o3 := o3.keep0 k25
   replace o5 := o5.keep0 k25
   replace hB := hB.trans k25
   replace hK1 := hK1.trans k25
   replace hK2 := hK2.trans k25
   replace hK3 := hK3.trans k25
   refine ow_g (g_as rfl) rfl (ow_nil (tw_ret1 hfin Try.results3 rfl ?_))
   exact ⟨rfl, hB⟩
  ·
   refine tw_skip (tw_seq (tw_region (ow_d (d_call (vs := []) rfl (kknows_any _)) rfl ?_)))
   rintro _ w26 ⟨rfl, k26⟩
   replace o1 := o1.keep0 k26
   replace o2 := o2.keep0 k26
   replace o3 := o3.keep0 k26
   replace hb5 := hb5.keep0 k26
   replace hB := hB.trans k26
   replace hK1 := hK1.trans k26
   replace hK2 := hK2.trans k26
   replace hK3 := hK3.trans k26
   refine ow_g (g_as rfl) rfl (ow_nil (tw_ret1 hfin Try.results3 rfl ?_))
   exact ⟨rfl, hB⟩
end Go.Proofs.Ytonchmcppekldaa.W
