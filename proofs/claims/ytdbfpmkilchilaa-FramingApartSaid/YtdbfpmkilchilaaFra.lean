import Derived.Test.YtdbfpmkilchilaaRdq
namespace Go.Proofs.Ytdbfpmkilchilaa.W
open Go Go.Eng Go.Byt
set_option linter.unusedVariables false
set_option linter.unusedSimpArgs false
theorem vecs1_le {xs : List UInt8} (h : xs.length ≤ 65536) : (vecs [xs]).length ≤ 140737488355328 := by
  have h1 := vlen_length xs.length
  simp only [vecs, vec, List.flatMap_cons, List.flatMap_nil, List.append_nil, List.length_append]; omega
theorem vecsB1 {xs : List UInt8} (h : xs.length ≤ 65536) : vecsB [xs] = vec xs := by
  unfold vecsB; rw [if_pos (by intro x hx; rw [List.mem_singleton] at hx; subst hx; exact h)]; simp [vecs]
theorem vec_length_le (xs : List UInt8) : (vec xs).length ≤ xs.length + 4 := by
  have h1 := vlen_length xs.length
  simp only [vec, List.length_append]; omega
theorem vec1_le {xs : List UInt8} : (vecsB [xs]).length ≤ 65540 := by
  unfold vecsB; split
  · rename_i h
    have h1 := h xs (by simp); have h2 := vec_length_le xs
    simp only [vecs, List.flatMap_cons, List.flatMap_nil, List.append_nil]; omega
  · simp
theorem numB_le (b n size : Int) (h : size ≤ 8) : (numB b n size).length ≤ 8 := by
  unfold numB; split
  · simp; omega
  · simp
def comB (gs ms : List UInt8) (ep kd : Int) : Bool := decide ((gs.length : Int) ≤ 255) && decide ((ms.length : Int) ≤ 255) && decide (0 ≤ ep) && decide (ep < 4294967296) && decide (1 ≤ kd) && decide (kd ≤ 3)
def rightB (gs : List UInt8) (ep fr lf : Int) (ms : List UInt8) (kd : Int) (bs : List UInt8) : Bool :=
  (decide (fr = 1) && decide (0 ≤ lf) && decide (lf < 64) || decide (fr = 4) && decide (lf = 0) && decide (kd = 3)) && decide ((bs.length : Int) ≤ 40000) && comB gs ms ep kd
def cBytes (gs : List UInt8) (ep fr lf : Int) (ms : List UInt8) (kd : Int) (bs : List UInt8) : List UInt8 :=
  [vecsB [gs], numB (bitsOf 8) ep 8, numB (bitsOf 1) fr 1, (if fr = 1 then numB (bitsOf 4) lf 4 else []), vecsB [ms], numB (bitsOf 1) kd 1, vecsB [bs]].flatten
theorem cBytes_le (gs : List UInt8) (ep fr lf : Int) (ms : List UInt8) (kd : Int) (bs : List UInt8) : (cBytes gs ep fr lf ms kd bs).length ≤ 140737488355328 := by
  have h1 := @vec1_le gs; have h2 := @vec1_le ms; have h3 := @vec1_le bs
  have h4 := numB_le (bitsOf 8) ep 8 (by decide); have h5 := numB_le (bitsOf 1) fr 1 (by decide); have h6 := numB_le (bitsOf 4) lf 4 (by decide); have h7 := numB_le (bitsOf 1) kd 1 (by decide)
  have h8 : (if fr = 1 then numB (bitsOf 4) lf 4 else []).length ≤ 8 := by split <;> simp [h6]
  simp only [cBytes, List.flatten_cons, List.flatten_nil, List.length_append, List.length_nil]; omega
abbrev SlB (w : World) (lo : Nat) (v : Value) (ls : List (List UInt8)) : Prop := SlL w lo 22 v ls
set_option maxRecDepth 100000 in
theorem fvectors_any (v : Value) (ls : List (List UInt8)) (lo : Nat) (w : World) (h : SlB w lo v ls) (hsum : (vecs ls).length ≤ 140737488355328) : Rets Try.prog 96 [v] w (fun u w' => OwnB w' w.heap.size u (vecsB ls) ∧ Keep [] w w') := by
  have hB : Keep [] w w := Keep.refl _ _
  obtain ⟨us, h1, h2, h3⟩ := h
  replace h3 := h3.rd
  rw [← h1] at h3
  refine rets_of_tw Try.func96 rfl (by decide) Try.ntmps96 rfl (fun fin _ hfin => ?_)
  refine tw_seq ?_
  refine tw_region ?_
  refine ow_g (g_as rfl) rfl ?_
  refine ow_nil ?_
  refine tw_seq ?_
  refine tw_region ?_
  refine ow_g (g_mv rfl) rfl ?_
  refine ow_d (d_call (vs := [_]) rfl (vectors_any _ us ls _ h3 h2 hsum)) rfl ?_
  rintro _ w1 ⟨v1, rfl, o1, k1⟩
  have z_k1 := k1.size
  replace hB := hB.trans k1
  have u_o1 := o1.blk
  refine ow_g (g_mv rfl) rfl ?_
  refine ow_g (g_ext (vs := [_, _]) rfl rfl) rfl ?_
  refine ow_g (g_ext (vs := [_, _]) rfl rfl) rfl ?_
  refine ow_g (g_as rfl) rfl ?_
  refine ow_g (g_as rfl) rfl ?_
  refine ow_nil ?_
  refine tw_seq ?_
  refine tw_region ?_
  refine ow_g (g_mv rfl) rfl ?_
  refine ow_g (g_as rfl) rfl ?_
  refine ow_nil ?_
  refine tw_ret1 hfin Try.results96 rfl ?_
  exact ⟨by assumption, hB⟩

set_option maxRecDepth 100000 in
theorem fnumber_any (n size : Int) (hs : size = 1 ∨ size = 2 ∨ size = 4 ∨ size = 8) (w : World) : Rets Try.prog 94 [.int .i64 n, .int .i64 size] w (fun u w' => OwnB w' w.heap.size u (numB (bitsOf size) n size) ∧ Keep [] w w') := by
  have hB : Keep [] w w := Keep.refl _ _
  refine rets_of_tw Try.func94 rfl (by decide) Try.ntmps94 rfl (fun fin _ hfin => ?_)
  refine tw_seq ?_
  refine tw_region ?_
  refine ow_g (g_as rfl) rfl ?_
  refine ow_nil ?_
  refine tw_seq ?_
  refine tw_region ?_
  refine ow_g (g_mv rfl) rfl ?_
  refine ow_g (g_mv rfl) rfl ?_
  refine ow_d (d_call (vs := [_, _]) rfl (number_any _ _ (by omega) _)) rfl ?_
  rintro _ w1 ⟨v1, rfl, o1, k1⟩
  have z_k1 := k1.size
  replace hB := hB.trans k1
  have u_o1 := o1.blk
  refine ow_g (g_mv rfl) rfl ?_
  refine ow_g (g_ext (vs := [_, _]) rfl rfl) rfl ?_
  refine ow_g (g_ext (vs := [_, _]) rfl rfl) rfl ?_
  refine ow_g (g_as rfl) rfl ?_
  refine ow_g (g_as rfl) rfl ?_
  refine ow_nil ?_
  refine tw_seq ?_
  refine tw_region ?_
  refine ow_g (g_mv rfl) rfl ?_
  refine ow_g (g_as rfl) rfl ?_
  refine ow_nil ?_
  refine tw_ret1 hfin Try.results94 rfl ?_
  exact ⟨by assumption, hB⟩

set_option maxRecDepth 100000 in
theorem common_any (g m : Value) (gs ms : List UInt8) (ep kd : Int) (w : World) (hg : RdB w g gs) (hm : RdB w m ms) : Rets Try.prog 93 [g, m, .int .i64 ep, .int .i64 kd] w (fun v w' => v = .bool (comB gs ms ep kd) ∧ w = w') := by
  refine rets_of_tw Try.func93 rfl (by decide) Try.ntmps93 rfl (fun fin _ hfin => ?_)
  refine tw_seq ?_
  refine tw_region ?_
  refine ow_g (g_as rfl) rfl ?_
  refine ow_nil ?_
  refine tw_seq ?_
  refine tw_region ?_
  refine ow_g (g_mv rfl) rfl ?_
  refine ow_g (g_len Try.underlying22 rfl (by first | assumption | exact Own.rd (by assumption) | exact Rd.keep0 (by assumption) hB | exact Own.rd (Own.keep0 (by assumption) hB))) rfl ?_
  refine ow_g (g_le rfl rfl) rfl ?_
  refine ow_g (g_mv rfl) rfl ?_
  refine ow_grp 12 true rfl (fun c1 hgc1 => ?_)
  refine ow_gg [(1, _)] (grd1 rfl rfl rfl hgc1) ⟨und0 rfl, trivial⟩ (fun hw1 => g_mv rfl) rfl ?_
  refine ow_gg [(13, _)] (grd1 rfl rfl rfl hgc1) ⟨und1 rfl, trivial⟩ (fun hw2 => g_len Try.underlying22 rfl (by first | assumption | exact Own.rd (by assumption) | exact Rd.keep0 (by assumption) hB | exact Own.rd (Own.keep0 (by assumption) hB))) rfl ?_
  refine ow_gg [(14, _)] (grd1 rfl rfl rfl hgc1) ⟨und1 rfl, trivial⟩ (fun hw3 => g_le rfl rfl) rfl ?_
  refine ow_g (g_pand rfl rfl hgc1) rfl ?_
  refine ow_g (g_mv rfl) rfl ?_
  refine ow_grp 17 true rfl (fun c2 hgc2 => ?_)
  refine ow_gg [(2, _)] (grd1 rfl rfl rfl hgc2) ⟨und0 rfl, trivial⟩ (fun hw4 => g_mv rfl) rfl ?_
  refine ow_gg [(18, _)] (grd1 rfl rfl rfl hgc2) ⟨und1 rfl, trivial⟩ (fun hw5 => g_ge rfl rfl) rfl ?_
  refine ow_g (g_pand rfl rfl hgc2) rfl ?_
  refine ow_g (g_mv rfl) rfl ?_
  refine ow_grp 21 true rfl (fun c3 hgc3 => ?_)
  refine ow_gg [(2, _)] (grd1 rfl rfl rfl hgc3) ⟨und0 rfl, trivial⟩ (fun hw6 => g_mv rfl) rfl ?_
  refine ow_gg [(22, _)] (grd1 rfl rfl rfl hgc3) ⟨und1 rfl, trivial⟩ (fun hw7 => g_lt rfl rfl) rfl ?_
  refine ow_g (g_pand rfl rfl hgc3) rfl ?_
  refine ow_g (g_mv rfl) rfl ?_
  refine ow_grp 25 true rfl (fun c4 hgc4 => ?_)
  refine ow_gg [(3, _)] (grd1 rfl rfl rfl hgc4) ⟨und0 rfl, trivial⟩ (fun hw8 => g_mv rfl) rfl ?_
  refine ow_gg [(26, _)] (grd1 rfl rfl rfl hgc4) ⟨und1 rfl, trivial⟩ (fun hw9 => g_ge rfl rfl) rfl ?_
  refine ow_g (g_pand rfl rfl hgc4) rfl ?_
  refine ow_g (g_mv rfl) rfl ?_
  refine ow_grp 29 true rfl (fun c5 hgc5 => ?_)
  refine ow_gg [(3, _)] (grd1 rfl rfl rfl hgc5) ⟨und0 rfl, trivial⟩ (fun hw10 => g_mv rfl) rfl ?_
  refine ow_gg [(30, _)] (grd1 rfl rfl rfl hgc5) ⟨und1 rfl, trivial⟩ (fun hw11 => g_le rfl rfl) rfl ?_
  refine ow_g (g_pand rfl rfl hgc5) rfl ?_
  refine ow_g (g_as rfl) rfl ?_
  refine ow_nil ?_
  refine tw_ret1 hfin Try.results93 rfl ?_
  exact ⟨rfl, rfl⟩

set_option maxRecDepth 100000 in
theorem right_any (g m b : Value) (gs ms bs : List UInt8) (ep fr lf kd : Int) (w : World) (hg : RdB w g gs) (hm : RdB w m ms) (hb : RdB w b bs) : Rets Try.prog 43 [.agg [g, .int .i64 ep, .int .i64 fr, .int .i64 lf, m, .int .i64 kd, b].toArray] w (fun v w' => v = .bool (rightB gs ep fr lf ms kd bs) ∧ Keep [] w w') := by
  have hB : Keep [] w w := Keep.refl _ _
  refine rets_of_tw Try.func43 rfl (by decide) Try.ntmps43 rfl (fun fin _ hfin => ?_)
  refine tw_seq ?_
  refine tw_region ?_
  refine ow_d (d_box (cs := [_, _, _, _, _, _, _]) rfl rfl) rfl ?_
  rintro _ w1 ⟨b1, rfl, eb1, hb1, k1, z1⟩
  have z_k1 := k1.size
  replace hB := hB.trans k1
  refine ow_g (g_as rfl) rfl ?_
  refine ow_nil ?_
  refine tw_seq ?_
  refine tw_region ?_
  refine ow_g (g_fa Try.underlying28 rfl ty3 (by decide) rfl) rfl ?_
  refine ow_g (g_ldb sc3 rfl (by assumption) rfl) rfl ?_
  refine ow_g (g_eq rfl rfl) rfl ?_
  refine ow_g (g_mv rfl) rfl ?_
  refine ow_grp 7 true rfl (fun c1 hgc1 => ?_)
  refine ow_gg [(1, _)] (grd1 rfl rfl rfl hgc1) ⟨und0 rfl, trivial⟩ (fun hw1 => g_fa Try.underlying28 rfl ty3 (by decide) rfl) rfl ?_
  refine ow_gg [(8, _)] (grd1 rfl rfl rfl hgc1) ⟨und1 rfl, trivial⟩ (fun hw2 => g_ldb sc3 rfl (by assumption) rfl) rfl ?_
  refine ow_gg [(9, _)] (grd1 rfl rfl rfl hgc1) ⟨und1 rfl, trivial⟩ (fun hw3 => g_ge rfl rfl) rfl ?_
  refine ow_g (g_pand rfl rfl hgc1) rfl ?_
  refine ow_g (g_mv rfl) rfl ?_
  refine ow_grp 12 true rfl (fun c2 hgc2 => ?_)
  refine ow_gg [(1, _)] (grd1 rfl rfl rfl hgc2) ⟨und0 rfl, trivial⟩ (fun hw4 => g_fa Try.underlying28 rfl ty3 (by decide) rfl) rfl ?_
  refine ow_gg [(13, _)] (grd1 rfl rfl rfl hgc2) ⟨und1 rfl, trivial⟩ (fun hw5 => g_ldb sc3 rfl (by assumption) rfl) rfl ?_
  refine ow_gg [(14, _)] (grd1 rfl rfl rfl hgc2) ⟨und1 rfl, trivial⟩ (fun hw6 => g_lt rfl rfl) rfl ?_
  refine ow_g (g_pand rfl rfl hgc2) rfl ?_
  refine ow_g (g_mv rfl) rfl ?_
  refine ow_grp 17 false rfl (fun c3 hgc3 => ?_)
  refine ow_gg [(1, _)] (grd1 rfl rfl rfl hgc3) ⟨und0 rfl, trivial⟩ (fun hw7 => g_fa Try.underlying28 rfl ty3 (by decide) rfl) rfl ?_
  refine ow_gg [(18, _)] (grd1 rfl rfl rfl hgc3) ⟨und1 rfl, trivial⟩ (fun hw8 => g_ldb sc3 rfl (by assumption) rfl) rfl ?_
  refine ow_gg [(19, _)] (grd1 rfl rfl rfl hgc3) ⟨und1 rfl, trivial⟩ (fun hw9 => g_eq rfl rfl) rfl ?_
  refine ow_gg [(20, _)] (grd1 rfl rfl rfl hgc3) ⟨und1 rfl, trivial⟩ (fun hw10 => g_mv rfl) rfl ?_
  refine ow_grp2 21 true rfl (fun c4 hgc4 => ?_)
  refine ow_gg [(1, _)] (grd2 rfl rfl rfl hgc4) ⟨und0 rfl, trivial⟩ (fun hw11 => g_fa Try.underlying28 rfl ty3 (by decide) rfl) rfl ?_
  refine ow_gg [(22, _)] (grd2 rfl rfl rfl hgc4) ⟨und1 rfl, trivial⟩ (fun hw12 => g_ldb sc3 rfl (by assumption) rfl) rfl ?_
  refine ow_gg [(23, _)] (grd2 rfl rfl rfl hgc4) ⟨und1 rfl, trivial⟩ (fun hw13 => g_eq rfl rfl) rfl ?_
  refine ow_pand (grd1 rfl rfl rfl hgc3) (und1 rfl) rfl hgc4 rfl ?_
  refine ow_gg [(25, _)] (grd1 rfl rfl rfl hgc3) ⟨und1 rfl, trivial⟩ (fun hw14 => g_mv rfl) rfl ?_
  refine ow_grp2 26 true rfl (fun c5 hgc5 => ?_)
  refine ow_gg [(1, _)] (grd2 rfl rfl rfl hgc5) ⟨und0 rfl, trivial⟩ (fun hw15 => g_fa Try.underlying28 rfl ty3 (by decide) rfl) rfl ?_
  refine ow_gg [(27, _)] (grd2 rfl rfl rfl hgc5) ⟨und1 rfl, trivial⟩ (fun hw16 => g_ldb sc3 rfl (by assumption) rfl) rfl ?_
  refine ow_gg [(28, _)] (grd2 rfl rfl rfl hgc5) ⟨und1 rfl, trivial⟩ (fun hw17 => g_eq rfl rfl) rfl ?_
  refine ow_pand (grd1 rfl rfl rfl hgc3) (und1 rfl) rfl hgc5 rfl ?_
  refine ow_g (g_por rfl rfl hgc3) rfl ?_
  refine ow_g (g_as rfl) rfl ?_
  refine ow_nil ?_
  refine tw_seq ?_
  refine tw_region ?_
  refine ow_g (g_mv rfl) rfl ?_
  refine ow_g (g_mv rfl) rfl ?_
  refine ow_grp 33 true rfl (fun c6 hgc6 => ?_)
  refine ow_gg [(1, _)] (grd1 rfl rfl rfl hgc6) ⟨und0 rfl, trivial⟩ (fun hw18 => g_fa Try.underlying28 rfl ty22 (by decide) rfl) rfl ?_
  refine ow_gg [(34, _)] (grd1 rfl rfl rfl hgc6) ⟨und1 rfl, trivial⟩ (fun hw19 => g_ldb sc22 rfl (by assumption) rfl) rfl ?_
  refine ow_gg [(35, _)] (grd1 rfl rfl rfl hgc6) ⟨und1 rfl, trivial⟩ (fun hw20 => g_len Try.underlying22 rfl (by first | assumption | exact Own.rd (by assumption) | exact Rd.keep0 (by assumption) hB | exact Own.rd (Own.keep0 (by assumption) hB))) rfl ?_
  refine ow_gg [(36, _)] (grd1 rfl rfl rfl hgc6) ⟨und1 rfl, trivial⟩ (fun hw21 => g_le rfl rfl) rfl ?_
  refine ow_g (g_pand rfl rfl hgc6) rfl ?_
  refine ow_g (g_mv rfl) rfl ?_
  refine ow_grp 39 true rfl (fun c7 hgc7 => ?_)
  refine ow_gg [(1, _)] (grd1 rfl rfl rfl hgc7) ⟨und0 rfl, trivial⟩ (fun hw22 => g_fa Try.underlying28 rfl ty22 (by decide) rfl) rfl ?_
  refine ow_gg [(40, _)] (grd1 rfl rfl rfl hgc7) ⟨und1 rfl, trivial⟩ (fun hw23 => g_ldb sc22 rfl (by assumption) rfl) rfl ?_
  refine ow_gg [(1, _)] (grd1 rfl rfl rfl hgc7) ⟨und0 rfl, trivial⟩ (fun hw24 => g_fa Try.underlying28 rfl ty22 (by decide) rfl) rfl ?_
  refine ow_gg [(42, _)] (grd1 rfl rfl rfl hgc7) ⟨und1 rfl, trivial⟩ (fun hw25 => g_ldb sc22 rfl (by assumption) rfl) rfl ?_
  refine ow_gg [(1, _)] (grd1 rfl rfl rfl hgc7) ⟨und0 rfl, trivial⟩ (fun hw26 => g_fa Try.underlying28 rfl ty3 (by decide) rfl) rfl ?_
  refine ow_gg [(44, _)] (grd1 rfl rfl rfl hgc7) ⟨und1 rfl, trivial⟩ (fun hw27 => g_ldb sc3 rfl (by assumption) rfl) rfl ?_
  refine ow_gg [(1, _)] (grd1 rfl rfl rfl hgc7) ⟨und0 rfl, trivial⟩ (fun hw28 => g_fa Try.underlying28 rfl ty3 (by decide) rfl) rfl ?_
  refine ow_gg [(46, _)] (grd1 rfl rfl rfl hgc7) ⟨und1 rfl, trivial⟩ (fun hw29 => g_ldb sc3 rfl (by assumption) rfl) rfl ?_
  refine ow_gds [(41, _), (43, _), (45, _), (47, _)] (grd1 rfl rfl rfl hgc7) ⟨und1 rfl, und1 rfl, und1 rfl, und1 rfl, trivial⟩ (fun hw30 => d_call (vs := [_, _, _, _]) rfl (common_any _ _ _ _ _ _ _ (by first | assumption | exact Own.rd (by assumption) | exact Rd.keep0 (by assumption) hB | exact Own.rd (Own.keep0 (by assumption) hB)) (by first | assumption | exact Own.rd (by assumption) | exact Rd.keep0 (by assumption) hB | exact Own.rd (Own.keep0 (by assumption) hB)))) rfl ?_
  refine ow_g (g_pand rfl rfl hgc7) rfl ?_
  refine ow_g (g_as rfl) rfl ?_
  refine ow_nil ?_
  refine tw_ret1 hfin Try.results43 rfl ?_
  exact ⟨rfl, hB⟩

theorem fconcat_any (v : Value) (ls : List (List UInt8)) (lo : Nat) (w : World) (h : SlB w lo v ls) (hsum : ls.flatten.length ≤ 140737488355328) : Rets Try.prog 95 [v] w (fun u w' => OwnB w' w.heap.size u ls.flatten ∧ Keep [] w w') := by
  obtain ⟨us, h1, h2, h3⟩ := h
  replace h3 := h3.rd
  rw [← h1] at h3
  exact concat_any v us ls w h3 h2 hsum
set_option maxRecDepth 100000 in
theorem bytes_any (g m b : Value) (gs ms bs : List UInt8) (ep fr lf kd : Int) (w : World) (hg : RdB w g gs) (hm : RdB w m ms) (hb : RdB w b bs) (lg : gs.length ≤ 65536) (lm : ms.length ≤ 65536) (lb : bs.length ≤ 65536) : Rets Try.prog 44 [.agg [g, .int .i64 ep, .int .i64 fr, .int .i64 lf, m, .int .i64 kd, b].toArray] w (fun u w' => OwnB w' w.heap.size u (cBytes gs ep fr lf ms kd bs) ∧ Keep [] w w') := by
  have hB : Keep [] w w := Keep.refl _ _
  refine rets_of_tw Try.func44 rfl (by decide) Try.ntmps44 rfl (fun fin _ hfin => ?_)
  refine tw_seq ?_
  refine tw_region ?_
  refine ow_d (d_box (cs := [_, _, _, _, _, _, _]) rfl rfl) rfl ?_
  rintro _ w1 ⟨b1, rfl, eb1, hb1, k1, z1⟩
  have z_k1 := k1.size
  replace hB := hB.trans k1
  refine ow_g (g_as rfl) rfl ?_
  refine ow_nil ?_
  refine tw_seq ?_
  refine tw_region ?_
  refine ow_g (g_as rfl) rfl ?_
  refine ow_nil ?_
  refine tw_seq ?_
  refine tw_seq ?_
  refine tw_region ?_
  refine ow_g (g_fa Try.underlying28 rfl ty3 (by decide) rfl) rfl ?_
  refine ow_g (g_ldb sc3 rfl (by assumption) rfl) rfl ?_
  refine ow_g (g_eq rfl rfl) rfl ?_
  refine ow_nil ?_
  refine tw_if rfl (fun hc1 => ?_) (fun hc1 => ?_)
  · -- yes
    refine tw_region ?_
    refine ow_g (g_fa Try.underlying28 rfl ty3 (by decide) rfl) rfl ?_
    refine ow_g (g_ldb sc3 rfl (by assumption) rfl) rfl ?_
    refine ow_d (d_call (vs := [_, _]) rfl (fnumber_any _ _ (by omega) _)) rfl ?_
    rintro v1 w2 ⟨o1, k2⟩
    have z_k2 := k2.size
    replace hb1 := hb1.keep0 k2
    replace hB := hB.trans k2
    have u_o1 := o1.blk
    refine ow_g (g_as rfl) rfl ?_
    refine ow_nil ?_
    refine tw_seq ?_
    have hLF : (if fr = 1 then numB (bitsOf 4) lf 4 else []) = numB (bitsOf 4) lf 4 := if_pos hc1
    rw [← hLF] at o1
    refine tw_drawnT 24 mixed [(1, _), (3, _), (0, _), (4, _), (5, _), (6, _), (7, _), (8, _), (9, _)] (fun i v W => match i with | 0 => v = .pointer (some ⟨b1, 0 + 0, none⟩) | 1 => v = g | 2 => SlL W w2.heap.size 22 v [gs] | 3 => OwnB W w2.heap.size v (vecsB [gs]) | 4 => v = .pointer (some ⟨b1, 0 + 1, none⟩) | 5 => v = .int .i64 ep | 6 => OwnB W w2.heap.size v (numB (bitsOf 8) ep 8) | 7 => v = .pointer (some ⟨b1, 0 + 2, none⟩) | 8 => v = .int .i64 fr | 9 => OwnB W w2.heap.size v (numB (bitsOf 1) fr 1) | 10 => v = v1 | 11 => v = .pointer (some ⟨b1, 0 + 4, none⟩) | 12 => v = m | 13 => SlL W w2.heap.size 22 v [ms] | 14 => OwnB W w2.heap.size v (vecsB [ms]) | 15 => v = .pointer (some ⟨b1, 0 + 5, none⟩) | 16 => v = .int .i64 kd | 17 => OwnB W w2.heap.size v (numB (bitsOf 1) kd 1) | 18 => v = .pointer (some ⟨b1, 0 + 6, none⟩) | 19 => v = b | 20 => SlL W w2.heap.size 22 v [bs] | 21 => OwnB W w2.heap.size v (vecsB [bs]) | 22 => SlL W w2.heap.size 22 v [vecsB [gs], numB (bitsOf 8) ep 8, numB (bitsOf 1) fr 1, (if fr = 1 then numB (bitsOf 4) lf 4 else []), vecsB [ms], numB (bitsOf 1) kd 1, vecsB [bs]] | 23 => OwnB W w2.heap.size v (cBytes gs ep fr lf ms kd bs) | _ => True) ⟨rfl, rfl, rfl, rfl, rfl, rfl, rfl, rfl, rfl, trivial⟩ (by decide) (by decide) rfl ?_ ?_ ?_
    · intro i v W W' h k
      match i, h with
      | 0, h => exact h
      | 1, h => exact h
      | 2, h => exact h.keep0 k
      | 3, h => exact h.keep0 k
      | 4, h => exact h
      | 5, h => exact h
      | 6, h => exact h.keep0 k
      | 7, h => exact h
      | 8, h => exact h
      | 9, h => exact h.keep0 k
      | 10, h => exact h
      | 11, h => exact h
      | 12, h => exact h
      | 13, h => exact h.keep0 k
      | 14, h => exact h.keep0 k
      | 15, h => exact h
      | 16, h => exact h
      | 17, h => exact h.keep0 k
      | 18, h => exact h
      | 19, h => exact h
      | 20, h => exact h.keep0 k
      | 21, h => exact h.keep0 k
      | 22, h => exact h.keep0 k
      | 23, h => exact h.keep0 k
      | _ + 24, _ => trivial
    · refine ⟨?_, ?_, ?_, ?_, ?_, ?_, ?_, ?_, ?_, ?_, ?_, ?_, ?_, ?_, ?_, ?_, ?_, ?_, ?_, ?_, ?_, ?_, ?_, ?_, trivial⟩
      · refine ⟨[], rfl, ?_⟩; rintro W1 hk vs hd
        replace hb1 := hb1.keep0 hk
        replace o1 := o1.keep0 hk
        replace hB := hB.trans hk
        refine ⟨true, fun a _ => rfl, fun _ => ?_, fun h => by cases h⟩
        refine does_sub [(1, _)] ⟨rfl, trivial⟩ ?_
        refine (Gives.does (g_fa Try.underlying28 rfl ty22 (by decide) rfl)).mono ?_
        rintro v W2 ⟨rfl, rfl⟩
        exact ⟨Keep.refl _ _, rfl⟩
      · refine ⟨[0], rfl, ?_⟩; rintro W1 hk vs hd
        have d0 : (vs 0) = .pointer (some ⟨b1, 0 + 0, none⟩) := hd 0 (by decide)
        replace hb1 := hb1.keep0 hk
        replace o1 := o1.keep0 hk
        replace hB := hB.trans hk
        refine ⟨true, fun a _ => rfl, fun _ => ?_, fun h => by cases h⟩
        refine does_sub [(10, .pointer (some ⟨b1, 0 + 0, none⟩))] ⟨congrArg some d0, trivial⟩ ?_
        refine (Gives.does (g_ldb sc22 rfl (by assumption) rfl)).mono ?_
        rintro v W2 ⟨rfl, rfl⟩
        exact ⟨Keep.refl _ _, rfl⟩
      · refine ⟨[1], rfl, ?_⟩; rintro W1 hk vs hd
        have d1 : (vs 1) = g := hd 1 (by decide)
        replace hb1 := hb1.keep0 hk
        replace o1 := o1.keep0 hk
        replace hB := hB.trans hk
        refine ⟨true, fun a _ => rfl, fun _ => ?_, fun h => by cases h⟩
        refine does_sub [(11, g)] ⟨congrArg some d1, trivial⟩ ?_
        refine (d_bsL (m := 1) (ls := [gs]) (xs := [.tmp 11]) (us := [_]) Try.underlying114 ty22 rfl rfl (rdL_cons (by first | exact Rd.nil _ _ | exact (by first | assumption | exact Own.rd (by assumption) | exact Rd.keep0 (by assumption) hB | exact Own.rd (Own.keep0 (by assumption) hB))) (rdL_nil _)) rfl rfl).mono ?_
        rintro v W2 ⟨o1, k1⟩; exact ⟨k1, o1.lo hk.size⟩
      · refine ⟨[2], rfl, ?_⟩; rintro W1 hk vs hd
        have d2 : SlL W1 w2.heap.size 22 (vs 2) [gs] := hd 2 (by decide)
        replace hb1 := hb1.keep0 hk
        replace o1 := o1.keep0 hk
        replace hB := hB.trans hk
        refine ⟨true, fun a _ => rfl, fun _ => ?_, fun h => by cases h⟩
        refine does_sub [(12, vs 2)] ⟨rfl, trivial⟩ ?_
        refine (d_call (vs := [_]) rfl (fvectors_any _ _ _ _ (by assumption) (vecs1_le (by assumption)))).mono ?_
        rintro v W2 ⟨o1, k1⟩; exact ⟨k1, o1.lo hk.size⟩
      · refine ⟨[], rfl, ?_⟩; rintro W1 hk vs hd
        replace hb1 := hb1.keep0 hk
        replace o1 := o1.keep0 hk
        replace hB := hB.trans hk
        refine ⟨true, fun a _ => rfl, fun _ => ?_, fun h => by cases h⟩
        refine does_sub [(1, _)] ⟨rfl, trivial⟩ ?_
        refine (Gives.does (g_fa Try.underlying28 rfl ty3 (by decide) rfl)).mono ?_
        rintro v W2 ⟨rfl, rfl⟩
        exact ⟨Keep.refl _ _, rfl⟩
      · refine ⟨[4], rfl, ?_⟩; rintro W1 hk vs hd
        have d4 : (vs 4) = .pointer (some ⟨b1, 0 + 1, none⟩) := hd 4 (by decide)
        replace hb1 := hb1.keep0 hk
        replace o1 := o1.keep0 hk
        replace hB := hB.trans hk
        refine ⟨true, fun a _ => rfl, fun _ => ?_, fun h => by cases h⟩
        refine does_sub [(14, .pointer (some ⟨b1, 0 + 1, none⟩))] ⟨congrArg some d4, trivial⟩ ?_
        refine (Gives.does (g_ldb sc3 rfl (by assumption) rfl)).mono ?_
        rintro v W2 ⟨rfl, rfl⟩
        exact ⟨Keep.refl _ _, rfl⟩
      · refine ⟨[5], rfl, ?_⟩; rintro W1 hk vs hd
        have d5 : (vs 5) = .int .i64 ep := hd 5 (by decide)
        replace hb1 := hb1.keep0 hk
        replace o1 := o1.keep0 hk
        replace hB := hB.trans hk
        refine ⟨true, fun a _ => rfl, fun _ => ?_, fun h => by cases h⟩
        refine does_sub [(15, .int .i64 ep)] ⟨congrArg some d5, trivial⟩ ?_
        refine (d_call (vs := [_, _]) rfl (fnumber_any _ _ (by omega) _)).mono ?_
        rintro v W2 ⟨o1, k1⟩; exact ⟨k1, o1.lo hk.size⟩
      · refine ⟨[], rfl, ?_⟩; rintro W1 hk vs hd
        replace hb1 := hb1.keep0 hk
        replace o1 := o1.keep0 hk
        replace hB := hB.trans hk
        refine ⟨true, fun a _ => rfl, fun _ => ?_, fun h => by cases h⟩
        refine does_sub [(1, _)] ⟨rfl, trivial⟩ ?_
        refine (Gives.does (g_fa Try.underlying28 rfl ty3 (by decide) rfl)).mono ?_
        rintro v W2 ⟨rfl, rfl⟩
        exact ⟨Keep.refl _ _, rfl⟩
      · refine ⟨[7], rfl, ?_⟩; rintro W1 hk vs hd
        have d7 : (vs 7) = .pointer (some ⟨b1, 0 + 2, none⟩) := hd 7 (by decide)
        replace hb1 := hb1.keep0 hk
        replace o1 := o1.keep0 hk
        replace hB := hB.trans hk
        refine ⟨true, fun a _ => rfl, fun _ => ?_, fun h => by cases h⟩
        refine does_sub [(17, .pointer (some ⟨b1, 0 + 2, none⟩))] ⟨congrArg some d7, trivial⟩ ?_
        refine (Gives.does (g_ldb sc3 rfl (by assumption) rfl)).mono ?_
        rintro v W2 ⟨rfl, rfl⟩
        exact ⟨Keep.refl _ _, rfl⟩
      · refine ⟨[8], rfl, ?_⟩; rintro W1 hk vs hd
        have d8 : (vs 8) = .int .i64 fr := hd 8 (by decide)
        replace hb1 := hb1.keep0 hk
        replace o1 := o1.keep0 hk
        replace hB := hB.trans hk
        refine ⟨true, fun a _ => rfl, fun _ => ?_, fun h => by cases h⟩
        refine does_sub [(18, .int .i64 fr)] ⟨congrArg some d8, trivial⟩ ?_
        refine (d_call (vs := [_, _]) rfl (fnumber_any _ _ (by omega) _)).mono ?_
        rintro v W2 ⟨o1, k1⟩; exact ⟨k1, o1.lo hk.size⟩
      · refine ⟨[], rfl, ?_⟩; rintro W1 hk vs hd
        replace hb1 := hb1.keep0 hk
        replace o1 := o1.keep0 hk
        replace hB := hB.trans hk
        refine ⟨true, fun a _ => rfl, fun _ => ?_, fun h => by cases h⟩
        refine does_sub [(3, _)] ⟨rfl, trivial⟩ ?_
        refine (Gives.does (g_mv rfl)).mono ?_
        rintro v W2 ⟨rfl, rfl⟩
        exact ⟨Keep.refl _ _, rfl⟩
      · refine ⟨[], rfl, ?_⟩; rintro W1 hk vs hd
        replace hb1 := hb1.keep0 hk
        replace o1 := o1.keep0 hk
        replace hB := hB.trans hk
        refine ⟨true, fun a _ => rfl, fun _ => ?_, fun h => by cases h⟩
        refine does_sub [(1, _)] ⟨rfl, trivial⟩ ?_
        refine (Gives.does (g_fa Try.underlying28 rfl ty22 (by decide) rfl)).mono ?_
        rintro v W2 ⟨rfl, rfl⟩
        exact ⟨Keep.refl _ _, rfl⟩
      · refine ⟨[11], rfl, ?_⟩; rintro W1 hk vs hd
        have d11 : (vs 11) = .pointer (some ⟨b1, 0 + 4, none⟩) := hd 11 (by decide)
        replace hb1 := hb1.keep0 hk
        replace o1 := o1.keep0 hk
        replace hB := hB.trans hk
        refine ⟨true, fun a _ => rfl, fun _ => ?_, fun h => by cases h⟩
        refine does_sub [(21, .pointer (some ⟨b1, 0 + 4, none⟩))] ⟨congrArg some d11, trivial⟩ ?_
        refine (Gives.does (g_ldb sc22 rfl (by assumption) rfl)).mono ?_
        rintro v W2 ⟨rfl, rfl⟩
        exact ⟨Keep.refl _ _, rfl⟩
      · refine ⟨[12], rfl, ?_⟩; rintro W1 hk vs hd
        have d12 : (vs 12) = m := hd 12 (by decide)
        replace hb1 := hb1.keep0 hk
        replace o1 := o1.keep0 hk
        replace hB := hB.trans hk
        refine ⟨true, fun a _ => rfl, fun _ => ?_, fun h => by cases h⟩
        refine does_sub [(22, m)] ⟨congrArg some d12, trivial⟩ ?_
        refine (d_bsL (m := 1) (ls := [ms]) (xs := [.tmp 22]) (us := [_]) Try.underlying114 ty22 rfl rfl (rdL_cons (by first | exact Rd.nil _ _ | exact (by first | assumption | exact Own.rd (by assumption) | exact Rd.keep0 (by assumption) hB | exact Own.rd (Own.keep0 (by assumption) hB))) (rdL_nil _)) rfl rfl).mono ?_
        rintro v W2 ⟨o1, k1⟩; exact ⟨k1, o1.lo hk.size⟩
      · refine ⟨[13], rfl, ?_⟩; rintro W1 hk vs hd
        have d13 : SlL W1 w2.heap.size 22 (vs 13) [ms] := hd 13 (by decide)
        replace hb1 := hb1.keep0 hk
        replace o1 := o1.keep0 hk
        replace hB := hB.trans hk
        refine ⟨true, fun a _ => rfl, fun _ => ?_, fun h => by cases h⟩
        refine does_sub [(23, vs 13)] ⟨rfl, trivial⟩ ?_
        refine (d_call (vs := [_]) rfl (fvectors_any _ _ _ _ (by assumption) (vecs1_le (by assumption)))).mono ?_
        rintro v W2 ⟨o1, k1⟩; exact ⟨k1, o1.lo hk.size⟩
      · refine ⟨[], rfl, ?_⟩; rintro W1 hk vs hd
        replace hb1 := hb1.keep0 hk
        replace o1 := o1.keep0 hk
        replace hB := hB.trans hk
        refine ⟨true, fun a _ => rfl, fun _ => ?_, fun h => by cases h⟩
        refine does_sub [(1, _)] ⟨rfl, trivial⟩ ?_
        refine (Gives.does (g_fa Try.underlying28 rfl ty3 (by decide) rfl)).mono ?_
        rintro v W2 ⟨rfl, rfl⟩
        exact ⟨Keep.refl _ _, rfl⟩
      · refine ⟨[15], rfl, ?_⟩; rintro W1 hk vs hd
        have d15 : (vs 15) = .pointer (some ⟨b1, 0 + 5, none⟩) := hd 15 (by decide)
        replace hb1 := hb1.keep0 hk
        replace o1 := o1.keep0 hk
        replace hB := hB.trans hk
        refine ⟨true, fun a _ => rfl, fun _ => ?_, fun h => by cases h⟩
        refine does_sub [(25, .pointer (some ⟨b1, 0 + 5, none⟩))] ⟨congrArg some d15, trivial⟩ ?_
        refine (Gives.does (g_ldb sc3 rfl (by assumption) rfl)).mono ?_
        rintro v W2 ⟨rfl, rfl⟩
        exact ⟨Keep.refl _ _, rfl⟩
      · refine ⟨[16], rfl, ?_⟩; rintro W1 hk vs hd
        have d16 : (vs 16) = .int .i64 kd := hd 16 (by decide)
        replace hb1 := hb1.keep0 hk
        replace o1 := o1.keep0 hk
        replace hB := hB.trans hk
        refine ⟨true, fun a _ => rfl, fun _ => ?_, fun h => by cases h⟩
        refine does_sub [(26, .int .i64 kd)] ⟨congrArg some d16, trivial⟩ ?_
        refine (d_call (vs := [_, _]) rfl (fnumber_any _ _ (by omega) _)).mono ?_
        rintro v W2 ⟨o1, k1⟩; exact ⟨k1, o1.lo hk.size⟩
      · refine ⟨[], rfl, ?_⟩; rintro W1 hk vs hd
        replace hb1 := hb1.keep0 hk
        replace o1 := o1.keep0 hk
        replace hB := hB.trans hk
        refine ⟨true, fun a _ => rfl, fun _ => ?_, fun h => by cases h⟩
        refine does_sub [(1, _)] ⟨rfl, trivial⟩ ?_
        refine (Gives.does (g_fa Try.underlying28 rfl ty22 (by decide) rfl)).mono ?_
        rintro v W2 ⟨rfl, rfl⟩
        exact ⟨Keep.refl _ _, rfl⟩
      · refine ⟨[18], rfl, ?_⟩; rintro W1 hk vs hd
        have d18 : (vs 18) = .pointer (some ⟨b1, 0 + 6, none⟩) := hd 18 (by decide)
        replace hb1 := hb1.keep0 hk
        replace o1 := o1.keep0 hk
        replace hB := hB.trans hk
        refine ⟨true, fun a _ => rfl, fun _ => ?_, fun h => by cases h⟩
        refine does_sub [(28, .pointer (some ⟨b1, 0 + 6, none⟩))] ⟨congrArg some d18, trivial⟩ ?_
        refine (Gives.does (g_ldb sc22 rfl (by assumption) rfl)).mono ?_
        rintro v W2 ⟨rfl, rfl⟩
        exact ⟨Keep.refl _ _, rfl⟩
      · refine ⟨[19], rfl, ?_⟩; rintro W1 hk vs hd
        have d19 : (vs 19) = b := hd 19 (by decide)
        replace hb1 := hb1.keep0 hk
        replace o1 := o1.keep0 hk
        replace hB := hB.trans hk
        refine ⟨true, fun a _ => rfl, fun _ => ?_, fun h => by cases h⟩
        refine does_sub [(29, b)] ⟨congrArg some d19, trivial⟩ ?_
        refine (d_bsL (m := 1) (ls := [bs]) (xs := [.tmp 29]) (us := [_]) Try.underlying114 ty22 rfl rfl (rdL_cons (by first | exact Rd.nil _ _ | exact (by first | assumption | exact Own.rd (by assumption) | exact Rd.keep0 (by assumption) hB | exact Own.rd (Own.keep0 (by assumption) hB))) (rdL_nil _)) rfl rfl).mono ?_
        rintro v W2 ⟨o1, k1⟩; exact ⟨k1, o1.lo hk.size⟩
      · refine ⟨[20], rfl, ?_⟩; rintro W1 hk vs hd
        have d20 : SlL W1 w2.heap.size 22 (vs 20) [bs] := hd 20 (by decide)
        replace hb1 := hb1.keep0 hk
        replace o1 := o1.keep0 hk
        replace hB := hB.trans hk
        refine ⟨true, fun a _ => rfl, fun _ => ?_, fun h => by cases h⟩
        refine does_sub [(30, vs 20)] ⟨rfl, trivial⟩ ?_
        refine (d_call (vs := [_]) rfl (fvectors_any _ _ _ _ (by assumption) (vecs1_le (by assumption)))).mono ?_
        rintro v W2 ⟨o1, k1⟩; exact ⟨k1, o1.lo hk.size⟩
      · refine ⟨[3, 6, 9, 10, 14, 17, 21], rfl, ?_⟩; rintro W1 hk vs hd
        have d3 : OwnB W1 w2.heap.size (vs 3) (vecsB [gs]) := hd 3 (by decide)
        have d6 : OwnB W1 w2.heap.size (vs 6) (numB (bitsOf 8) ep 8) := hd 6 (by decide)
        have d9 : OwnB W1 w2.heap.size (vs 9) (numB (bitsOf 1) fr 1) := hd 9 (by decide)
        have d10 : (vs 10) = v1 := hd 10 (by decide)
        have d14 : OwnB W1 w2.heap.size (vs 14) (vecsB [ms]) := hd 14 (by decide)
        have d17 : OwnB W1 w2.heap.size (vs 17) (numB (bitsOf 1) kd 1) := hd 17 (by decide)
        have d21 : OwnB W1 w2.heap.size (vs 21) (vecsB [bs]) := hd 21 (by decide)
        replace hb1 := hb1.keep0 hk
        replace o1 := o1.keep0 hk
        replace hB := hB.trans hk
        refine ⟨true, fun a _ => rfl, fun _ => ?_, fun h => by cases h⟩
        refine does_sub [(13, vs 3), (16, vs 6), (19, vs 9), (20, v1), (24, vs 14), (27, vs 17), (31, vs 21)] ⟨rfl, rfl, rfl, congrArg some d10, rfl, rfl, rfl, trivial⟩ ?_
        refine (d_bsL (m := 7) (ls := [vecsB [gs], numB (bitsOf 8) ep 8, numB (bitsOf 1) fr 1, (if fr = 1 then numB (bitsOf 4) lf 4 else []), vecsB [ms], numB (bitsOf 1) kd 1, vecsB [bs]]) (xs := [.tmp 13, .tmp 16, .tmp 19, .tmp 20, .tmp 24, .tmp 27, .tmp 31]) (us := [_, _, _, _, _, _, _]) Try.underlying114 ty22 rfl rfl (rdL_cons (by first | exact Rd.nil _ _ | exact (by first | assumption | exact Own.rd (by assumption) | exact Rd.keep0 (by assumption) hB | exact Own.rd (Own.keep0 (by assumption) hB))) (rdL_cons (by first | exact Rd.nil _ _ | exact (by first | assumption | exact Own.rd (by assumption) | exact Rd.keep0 (by assumption) hB | exact Own.rd (Own.keep0 (by assumption) hB))) (rdL_cons (by first | exact Rd.nil _ _ | exact (by first | assumption | exact Own.rd (by assumption) | exact Rd.keep0 (by assumption) hB | exact Own.rd (Own.keep0 (by assumption) hB))) (rdL_cons (by first | exact Rd.nil _ _ | exact (by first | assumption | exact Own.rd (by assumption) | exact Rd.keep0 (by assumption) hB | exact Own.rd (Own.keep0 (by assumption) hB))) (rdL_cons (by first | exact Rd.nil _ _ | exact (by first | assumption | exact Own.rd (by assumption) | exact Rd.keep0 (by assumption) hB | exact Own.rd (Own.keep0 (by assumption) hB))) (rdL_cons (by first | exact Rd.nil _ _ | exact (by first | assumption | exact Own.rd (by assumption) | exact Rd.keep0 (by assumption) hB | exact Own.rd (Own.keep0 (by assumption) hB))) (rdL_cons (by first | exact Rd.nil _ _ | exact (by first | assumption | exact Own.rd (by assumption) | exact Rd.keep0 (by assumption) hB | exact Own.rd (Own.keep0 (by assumption) hB))) (rdL_nil _)))))))) rfl rfl).mono ?_
        rintro v W2 ⟨o1, k1⟩; exact ⟨k1, o1.lo hk.size⟩
      · refine ⟨[22], rfl, ?_⟩; rintro W1 hk vs hd
        have d22 : SlL W1 w2.heap.size 22 (vs 22) [vecsB [gs], numB (bitsOf 8) ep 8, numB (bitsOf 1) fr 1, (if fr = 1 then numB (bitsOf 4) lf 4 else []), vecsB [ms], numB (bitsOf 1) kd 1, vecsB [bs]] := hd 22 (by decide)
        replace hb1 := hb1.keep0 hk
        replace o1 := o1.keep0 hk
        replace hB := hB.trans hk
        refine ⟨true, fun a _ => rfl, fun _ => ?_, fun h => by cases h⟩
        refine does_sub [(32, vs 22)] ⟨rfl, trivial⟩ ?_
        refine (d_call (vs := [_]) rfl (fconcat_any _ _ _ _ (by assumption) (cBytes_le gs ep fr lf ms kd bs))).mono ?_
        rintro v W2 ⟨o1, k1⟩; exact ⟨k1, o1.lo hk.size⟩
    rintro w3 k3 vs hv
    have z_k3 := k3.size
    replace hb1 := hb1.keep0 k3
    replace o1 := o1.keep0 k3
    replace hB := hB.trans k3
    have e33 : OwnB w3 w2.heap.size (vs 23) (cBytes gs ep fr lf ms kd bs) := hv 23 (by decide) rfl
    refine ow_keep [(33, vs 23), (1, _), (3, _), (0, _), (4, _), (5, _), (6, _), (7, _), (8, _), (9, _)] ⟨rfl, rfl, rfl, rfl, rfl, rfl, rfl, rfl, rfl, rfl, trivial⟩ ?_
    have o2 := e33
    have u_o2 := o2.blk
    refine ow_g (g_as rfl) rfl ?_
    refine ow_nil ?_
    refine tw_ret1 hfin Try.results44 rfl ?_
    exact ⟨(by assumption : OwnB _ _ _ _).lo (by omega), hB⟩
  · -- no
    refine tw_skip ?_
    refine tw_seq ?_
    have onil : RdB w (.slice none 0 0) (if fr = 1 then numB (bitsOf 4) lf 4 else []) := by rw [if_neg hc1]; exact Rd.nil _ _
    refine tw_drawnT 24 mixed [(1, _), (3, _), (0, _), (4, _), (5, _), (6, _)] (fun i v W => match i with | 0 => v = .pointer (some ⟨b1, 0 + 0, none⟩) | 1 => v = g | 2 => SlL W w1.heap.size 22 v [gs] | 3 => OwnB W w1.heap.size v (vecsB [gs]) | 4 => v = .pointer (some ⟨b1, 0 + 1, none⟩) | 5 => v = .int .i64 ep | 6 => OwnB W w1.heap.size v (numB (bitsOf 8) ep 8) | 7 => v = .pointer (some ⟨b1, 0 + 2, none⟩) | 8 => v = .int .i64 fr | 9 => OwnB W w1.heap.size v (numB (bitsOf 1) fr 1) | 10 => v = .slice none 0 0 | 11 => v = .pointer (some ⟨b1, 0 + 4, none⟩) | 12 => v = m | 13 => SlL W w1.heap.size 22 v [ms] | 14 => OwnB W w1.heap.size v (vecsB [ms]) | 15 => v = .pointer (some ⟨b1, 0 + 5, none⟩) | 16 => v = .int .i64 kd | 17 => OwnB W w1.heap.size v (numB (bitsOf 1) kd 1) | 18 => v = .pointer (some ⟨b1, 0 + 6, none⟩) | 19 => v = b | 20 => SlL W w1.heap.size 22 v [bs] | 21 => OwnB W w1.heap.size v (vecsB [bs]) | 22 => SlL W w1.heap.size 22 v [vecsB [gs], numB (bitsOf 8) ep 8, numB (bitsOf 1) fr 1, (if fr = 1 then numB (bitsOf 4) lf 4 else []), vecsB [ms], numB (bitsOf 1) kd 1, vecsB [bs]] | 23 => OwnB W w1.heap.size v (cBytes gs ep fr lf ms kd bs) | _ => True) ⟨rfl, rfl, rfl, rfl, rfl, rfl, trivial⟩ (by decide) (by decide) rfl ?_ ?_ ?_
    · intro i v W W' h k
      match i, h with
      | 0, h => exact h
      | 1, h => exact h
      | 2, h => exact h.keep0 k
      | 3, h => exact h.keep0 k
      | 4, h => exact h
      | 5, h => exact h
      | 6, h => exact h.keep0 k
      | 7, h => exact h
      | 8, h => exact h
      | 9, h => exact h.keep0 k
      | 10, h => exact h
      | 11, h => exact h
      | 12, h => exact h
      | 13, h => exact h.keep0 k
      | 14, h => exact h.keep0 k
      | 15, h => exact h
      | 16, h => exact h
      | 17, h => exact h.keep0 k
      | 18, h => exact h
      | 19, h => exact h
      | 20, h => exact h.keep0 k
      | 21, h => exact h.keep0 k
      | 22, h => exact h.keep0 k
      | 23, h => exact h.keep0 k
      | _ + 24, _ => trivial
    · refine ⟨?_, ?_, ?_, ?_, ?_, ?_, ?_, ?_, ?_, ?_, ?_, ?_, ?_, ?_, ?_, ?_, ?_, ?_, ?_, ?_, ?_, ?_, ?_, ?_, trivial⟩
      · refine ⟨[], rfl, ?_⟩; rintro W1 hk vs hd
        replace hb1 := hb1.keep0 hk
        replace hB := hB.trans hk
        refine ⟨true, fun a _ => rfl, fun _ => ?_, fun h => by cases h⟩
        refine does_sub [(1, _)] ⟨rfl, trivial⟩ ?_
        refine (Gives.does (g_fa Try.underlying28 rfl ty22 (by decide) rfl)).mono ?_
        rintro v W2 ⟨rfl, rfl⟩
        exact ⟨Keep.refl _ _, rfl⟩
      · refine ⟨[0], rfl, ?_⟩; rintro W1 hk vs hd
        have d0 : (vs 0) = .pointer (some ⟨b1, 0 + 0, none⟩) := hd 0 (by decide)
        replace hb1 := hb1.keep0 hk
        replace hB := hB.trans hk
        refine ⟨true, fun a _ => rfl, fun _ => ?_, fun h => by cases h⟩
        refine does_sub [(10, .pointer (some ⟨b1, 0 + 0, none⟩))] ⟨congrArg some d0, trivial⟩ ?_
        refine (Gives.does (g_ldb sc22 rfl (by assumption) rfl)).mono ?_
        rintro v W2 ⟨rfl, rfl⟩
        exact ⟨Keep.refl _ _, rfl⟩
      · refine ⟨[1], rfl, ?_⟩; rintro W1 hk vs hd
        have d1 : (vs 1) = g := hd 1 (by decide)
        replace hb1 := hb1.keep0 hk
        replace hB := hB.trans hk
        refine ⟨true, fun a _ => rfl, fun _ => ?_, fun h => by cases h⟩
        refine does_sub [(11, g)] ⟨congrArg some d1, trivial⟩ ?_
        refine (d_bsL (m := 1) (ls := [gs]) (xs := [.tmp 11]) (us := [_]) Try.underlying114 ty22 rfl rfl (rdL_cons (by first | exact Rd.nil _ _ | exact (by first | assumption | exact Own.rd (by assumption) | exact Rd.keep0 (by assumption) hB | exact Own.rd (Own.keep0 (by assumption) hB))) (rdL_nil _)) rfl rfl).mono ?_
        rintro v W2 ⟨o1, k1⟩; exact ⟨k1, o1.lo hk.size⟩
      · refine ⟨[2], rfl, ?_⟩; rintro W1 hk vs hd
        have d2 : SlL W1 w1.heap.size 22 (vs 2) [gs] := hd 2 (by decide)
        replace hb1 := hb1.keep0 hk
        replace hB := hB.trans hk
        refine ⟨true, fun a _ => rfl, fun _ => ?_, fun h => by cases h⟩
        refine does_sub [(12, vs 2)] ⟨rfl, trivial⟩ ?_
        refine (d_call (vs := [_]) rfl (fvectors_any _ _ _ _ (by assumption) (vecs1_le (by assumption)))).mono ?_
        rintro v W2 ⟨o1, k1⟩; exact ⟨k1, o1.lo hk.size⟩
      · refine ⟨[], rfl, ?_⟩; rintro W1 hk vs hd
        replace hb1 := hb1.keep0 hk
        replace hB := hB.trans hk
        refine ⟨true, fun a _ => rfl, fun _ => ?_, fun h => by cases h⟩
        refine does_sub [(1, _)] ⟨rfl, trivial⟩ ?_
        refine (Gives.does (g_fa Try.underlying28 rfl ty3 (by decide) rfl)).mono ?_
        rintro v W2 ⟨rfl, rfl⟩
        exact ⟨Keep.refl _ _, rfl⟩
      · refine ⟨[4], rfl, ?_⟩; rintro W1 hk vs hd
        have d4 : (vs 4) = .pointer (some ⟨b1, 0 + 1, none⟩) := hd 4 (by decide)
        replace hb1 := hb1.keep0 hk
        replace hB := hB.trans hk
        refine ⟨true, fun a _ => rfl, fun _ => ?_, fun h => by cases h⟩
        refine does_sub [(14, .pointer (some ⟨b1, 0 + 1, none⟩))] ⟨congrArg some d4, trivial⟩ ?_
        refine (Gives.does (g_ldb sc3 rfl (by assumption) rfl)).mono ?_
        rintro v W2 ⟨rfl, rfl⟩
        exact ⟨Keep.refl _ _, rfl⟩
      · refine ⟨[5], rfl, ?_⟩; rintro W1 hk vs hd
        have d5 : (vs 5) = .int .i64 ep := hd 5 (by decide)
        replace hb1 := hb1.keep0 hk
        replace hB := hB.trans hk
        refine ⟨true, fun a _ => rfl, fun _ => ?_, fun h => by cases h⟩
        refine does_sub [(15, .int .i64 ep)] ⟨congrArg some d5, trivial⟩ ?_
        refine (d_call (vs := [_, _]) rfl (fnumber_any _ _ (by omega) _)).mono ?_
        rintro v W2 ⟨o1, k1⟩; exact ⟨k1, o1.lo hk.size⟩
      · refine ⟨[], rfl, ?_⟩; rintro W1 hk vs hd
        replace hb1 := hb1.keep0 hk
        replace hB := hB.trans hk
        refine ⟨true, fun a _ => rfl, fun _ => ?_, fun h => by cases h⟩
        refine does_sub [(1, _)] ⟨rfl, trivial⟩ ?_
        refine (Gives.does (g_fa Try.underlying28 rfl ty3 (by decide) rfl)).mono ?_
        rintro v W2 ⟨rfl, rfl⟩
        exact ⟨Keep.refl _ _, rfl⟩
      · refine ⟨[7], rfl, ?_⟩; rintro W1 hk vs hd
        have d7 : (vs 7) = .pointer (some ⟨b1, 0 + 2, none⟩) := hd 7 (by decide)
        replace hb1 := hb1.keep0 hk
        replace hB := hB.trans hk
        refine ⟨true, fun a _ => rfl, fun _ => ?_, fun h => by cases h⟩
        refine does_sub [(17, .pointer (some ⟨b1, 0 + 2, none⟩))] ⟨congrArg some d7, trivial⟩ ?_
        refine (Gives.does (g_ldb sc3 rfl (by assumption) rfl)).mono ?_
        rintro v W2 ⟨rfl, rfl⟩
        exact ⟨Keep.refl _ _, rfl⟩
      · refine ⟨[8], rfl, ?_⟩; rintro W1 hk vs hd
        have d8 : (vs 8) = .int .i64 fr := hd 8 (by decide)
        replace hb1 := hb1.keep0 hk
        replace hB := hB.trans hk
        refine ⟨true, fun a _ => rfl, fun _ => ?_, fun h => by cases h⟩
        refine does_sub [(18, .int .i64 fr)] ⟨congrArg some d8, trivial⟩ ?_
        refine (d_call (vs := [_, _]) rfl (fnumber_any _ _ (by omega) _)).mono ?_
        rintro v W2 ⟨o1, k1⟩; exact ⟨k1, o1.lo hk.size⟩
      · refine ⟨[], rfl, ?_⟩; rintro W1 hk vs hd
        replace hb1 := hb1.keep0 hk
        replace hB := hB.trans hk
        refine ⟨true, fun a _ => rfl, fun _ => ?_, fun h => by cases h⟩
        refine does_sub [(3, _)] ⟨rfl, trivial⟩ ?_
        refine (Gives.does (g_mv rfl)).mono ?_
        rintro v W2 ⟨rfl, rfl⟩
        exact ⟨Keep.refl _ _, rfl⟩
      · refine ⟨[], rfl, ?_⟩; rintro W1 hk vs hd
        replace hb1 := hb1.keep0 hk
        replace hB := hB.trans hk
        refine ⟨true, fun a _ => rfl, fun _ => ?_, fun h => by cases h⟩
        refine does_sub [(1, _)] ⟨rfl, trivial⟩ ?_
        refine (Gives.does (g_fa Try.underlying28 rfl ty22 (by decide) rfl)).mono ?_
        rintro v W2 ⟨rfl, rfl⟩
        exact ⟨Keep.refl _ _, rfl⟩
      · refine ⟨[11], rfl, ?_⟩; rintro W1 hk vs hd
        have d11 : (vs 11) = .pointer (some ⟨b1, 0 + 4, none⟩) := hd 11 (by decide)
        replace hb1 := hb1.keep0 hk
        replace hB := hB.trans hk
        refine ⟨true, fun a _ => rfl, fun _ => ?_, fun h => by cases h⟩
        refine does_sub [(21, .pointer (some ⟨b1, 0 + 4, none⟩))] ⟨congrArg some d11, trivial⟩ ?_
        refine (Gives.does (g_ldb sc22 rfl (by assumption) rfl)).mono ?_
        rintro v W2 ⟨rfl, rfl⟩
        exact ⟨Keep.refl _ _, rfl⟩
      · refine ⟨[12], rfl, ?_⟩; rintro W1 hk vs hd
        have d12 : (vs 12) = m := hd 12 (by decide)
        replace hb1 := hb1.keep0 hk
        replace hB := hB.trans hk
        refine ⟨true, fun a _ => rfl, fun _ => ?_, fun h => by cases h⟩
        refine does_sub [(22, m)] ⟨congrArg some d12, trivial⟩ ?_
        refine (d_bsL (m := 1) (ls := [ms]) (xs := [.tmp 22]) (us := [_]) Try.underlying114 ty22 rfl rfl (rdL_cons (by first | exact Rd.nil _ _ | exact (by first | assumption | exact Own.rd (by assumption) | exact Rd.keep0 (by assumption) hB | exact Own.rd (Own.keep0 (by assumption) hB))) (rdL_nil _)) rfl rfl).mono ?_
        rintro v W2 ⟨o1, k1⟩; exact ⟨k1, o1.lo hk.size⟩
      · refine ⟨[13], rfl, ?_⟩; rintro W1 hk vs hd
        have d13 : SlL W1 w1.heap.size 22 (vs 13) [ms] := hd 13 (by decide)
        replace hb1 := hb1.keep0 hk
        replace hB := hB.trans hk
        refine ⟨true, fun a _ => rfl, fun _ => ?_, fun h => by cases h⟩
        refine does_sub [(23, vs 13)] ⟨rfl, trivial⟩ ?_
        refine (d_call (vs := [_]) rfl (fvectors_any _ _ _ _ (by assumption) (vecs1_le (by assumption)))).mono ?_
        rintro v W2 ⟨o1, k1⟩; exact ⟨k1, o1.lo hk.size⟩
      · refine ⟨[], rfl, ?_⟩; rintro W1 hk vs hd
        replace hb1 := hb1.keep0 hk
        replace hB := hB.trans hk
        refine ⟨true, fun a _ => rfl, fun _ => ?_, fun h => by cases h⟩
        refine does_sub [(1, _)] ⟨rfl, trivial⟩ ?_
        refine (Gives.does (g_fa Try.underlying28 rfl ty3 (by decide) rfl)).mono ?_
        rintro v W2 ⟨rfl, rfl⟩
        exact ⟨Keep.refl _ _, rfl⟩
      · refine ⟨[15], rfl, ?_⟩; rintro W1 hk vs hd
        have d15 : (vs 15) = .pointer (some ⟨b1, 0 + 5, none⟩) := hd 15 (by decide)
        replace hb1 := hb1.keep0 hk
        replace hB := hB.trans hk
        refine ⟨true, fun a _ => rfl, fun _ => ?_, fun h => by cases h⟩
        refine does_sub [(25, .pointer (some ⟨b1, 0 + 5, none⟩))] ⟨congrArg some d15, trivial⟩ ?_
        refine (Gives.does (g_ldb sc3 rfl (by assumption) rfl)).mono ?_
        rintro v W2 ⟨rfl, rfl⟩
        exact ⟨Keep.refl _ _, rfl⟩
      · refine ⟨[16], rfl, ?_⟩; rintro W1 hk vs hd
        have d16 : (vs 16) = .int .i64 kd := hd 16 (by decide)
        replace hb1 := hb1.keep0 hk
        replace hB := hB.trans hk
        refine ⟨true, fun a _ => rfl, fun _ => ?_, fun h => by cases h⟩
        refine does_sub [(26, .int .i64 kd)] ⟨congrArg some d16, trivial⟩ ?_
        refine (d_call (vs := [_, _]) rfl (fnumber_any _ _ (by omega) _)).mono ?_
        rintro v W2 ⟨o1, k1⟩; exact ⟨k1, o1.lo hk.size⟩
      · refine ⟨[], rfl, ?_⟩; rintro W1 hk vs hd
        replace hb1 := hb1.keep0 hk
        replace hB := hB.trans hk
        refine ⟨true, fun a _ => rfl, fun _ => ?_, fun h => by cases h⟩
        refine does_sub [(1, _)] ⟨rfl, trivial⟩ ?_
        refine (Gives.does (g_fa Try.underlying28 rfl ty22 (by decide) rfl)).mono ?_
        rintro v W2 ⟨rfl, rfl⟩
        exact ⟨Keep.refl _ _, rfl⟩
      · refine ⟨[18], rfl, ?_⟩; rintro W1 hk vs hd
        have d18 : (vs 18) = .pointer (some ⟨b1, 0 + 6, none⟩) := hd 18 (by decide)
        replace hb1 := hb1.keep0 hk
        replace hB := hB.trans hk
        refine ⟨true, fun a _ => rfl, fun _ => ?_, fun h => by cases h⟩
        refine does_sub [(28, .pointer (some ⟨b1, 0 + 6, none⟩))] ⟨congrArg some d18, trivial⟩ ?_
        refine (Gives.does (g_ldb sc22 rfl (by assumption) rfl)).mono ?_
        rintro v W2 ⟨rfl, rfl⟩
        exact ⟨Keep.refl _ _, rfl⟩
      · refine ⟨[19], rfl, ?_⟩; rintro W1 hk vs hd
        have d19 : (vs 19) = b := hd 19 (by decide)
        replace hb1 := hb1.keep0 hk
        replace hB := hB.trans hk
        refine ⟨true, fun a _ => rfl, fun _ => ?_, fun h => by cases h⟩
        refine does_sub [(29, b)] ⟨congrArg some d19, trivial⟩ ?_
        refine (d_bsL (m := 1) (ls := [bs]) (xs := [.tmp 29]) (us := [_]) Try.underlying114 ty22 rfl rfl (rdL_cons (by first | exact Rd.nil _ _ | exact (by first | assumption | exact Own.rd (by assumption) | exact Rd.keep0 (by assumption) hB | exact Own.rd (Own.keep0 (by assumption) hB))) (rdL_nil _)) rfl rfl).mono ?_
        rintro v W2 ⟨o1, k1⟩; exact ⟨k1, o1.lo hk.size⟩
      · refine ⟨[20], rfl, ?_⟩; rintro W1 hk vs hd
        have d20 : SlL W1 w1.heap.size 22 (vs 20) [bs] := hd 20 (by decide)
        replace hb1 := hb1.keep0 hk
        replace hB := hB.trans hk
        refine ⟨true, fun a _ => rfl, fun _ => ?_, fun h => by cases h⟩
        refine does_sub [(30, vs 20)] ⟨rfl, trivial⟩ ?_
        refine (d_call (vs := [_]) rfl (fvectors_any _ _ _ _ (by assumption) (vecs1_le (by assumption)))).mono ?_
        rintro v W2 ⟨o1, k1⟩; exact ⟨k1, o1.lo hk.size⟩
      · refine ⟨[3, 6, 9, 10, 14, 17, 21], rfl, ?_⟩; rintro W1 hk vs hd
        have d3 : OwnB W1 w1.heap.size (vs 3) (vecsB [gs]) := hd 3 (by decide)
        have d6 : OwnB W1 w1.heap.size (vs 6) (numB (bitsOf 8) ep 8) := hd 6 (by decide)
        have d9 : OwnB W1 w1.heap.size (vs 9) (numB (bitsOf 1) fr 1) := hd 9 (by decide)
        have d10 : (vs 10) = .slice none 0 0 := hd 10 (by decide)
        have d14 : OwnB W1 w1.heap.size (vs 14) (vecsB [ms]) := hd 14 (by decide)
        have d17 : OwnB W1 w1.heap.size (vs 17) (numB (bitsOf 1) kd 1) := hd 17 (by decide)
        have d21 : OwnB W1 w1.heap.size (vs 21) (vecsB [bs]) := hd 21 (by decide)
        replace hb1 := hb1.keep0 hk
        replace hB := hB.trans hk
        refine ⟨true, fun a _ => rfl, fun _ => ?_, fun h => by cases h⟩
        refine does_sub [(13, vs 3), (16, vs 6), (19, vs 9), (20, .slice none 0 0), (24, vs 14), (27, vs 17), (31, vs 21)] ⟨rfl, rfl, rfl, congrArg some d10, rfl, rfl, rfl, trivial⟩ ?_
        refine (d_bsL (m := 7) (ls := [vecsB [gs], numB (bitsOf 8) ep 8, numB (bitsOf 1) fr 1, (if fr = 1 then numB (bitsOf 4) lf 4 else []), vecsB [ms], numB (bitsOf 1) kd 1, vecsB [bs]]) (xs := [.tmp 13, .tmp 16, .tmp 19, .tmp 20, .tmp 24, .tmp 27, .tmp 31]) (us := [_, _, _, _, _, _, _]) Try.underlying114 ty22 rfl rfl (rdL_cons (by first | exact Rd.nil _ _ | exact (by first | assumption | exact Own.rd (by assumption) | exact Rd.keep0 (by assumption) hB | exact Own.rd (Own.keep0 (by assumption) hB))) (rdL_cons (by first | exact Rd.nil _ _ | exact (by first | assumption | exact Own.rd (by assumption) | exact Rd.keep0 (by assumption) hB | exact Own.rd (Own.keep0 (by assumption) hB))) (rdL_cons (by first | exact Rd.nil _ _ | exact (by first | assumption | exact Own.rd (by assumption) | exact Rd.keep0 (by assumption) hB | exact Own.rd (Own.keep0 (by assumption) hB))) (rdL_cons (by first | exact Rd.nil _ _ | exact (by first | assumption | exact Own.rd (by assumption) | exact Rd.keep0 (by assumption) hB | exact Own.rd (Own.keep0 (by assumption) hB))) (rdL_cons (by first | exact Rd.nil _ _ | exact (by first | assumption | exact Own.rd (by assumption) | exact Rd.keep0 (by assumption) hB | exact Own.rd (Own.keep0 (by assumption) hB))) (rdL_cons (by first | exact Rd.nil _ _ | exact (by first | assumption | exact Own.rd (by assumption) | exact Rd.keep0 (by assumption) hB | exact Own.rd (Own.keep0 (by assumption) hB))) (rdL_cons (by first | exact Rd.nil _ _ | exact (by first | assumption | exact Own.rd (by assumption) | exact Rd.keep0 (by assumption) hB | exact Own.rd (Own.keep0 (by assumption) hB))) (rdL_nil _)))))))) rfl rfl).mono ?_
        rintro v W2 ⟨o1, k1⟩; exact ⟨k1, o1.lo hk.size⟩
      · refine ⟨[22], rfl, ?_⟩; rintro W1 hk vs hd
        have d22 : SlL W1 w1.heap.size 22 (vs 22) [vecsB [gs], numB (bitsOf 8) ep 8, numB (bitsOf 1) fr 1, (if fr = 1 then numB (bitsOf 4) lf 4 else []), vecsB [ms], numB (bitsOf 1) kd 1, vecsB [bs]] := hd 22 (by decide)
        replace hb1 := hb1.keep0 hk
        replace hB := hB.trans hk
        refine ⟨true, fun a _ => rfl, fun _ => ?_, fun h => by cases h⟩
        refine does_sub [(32, vs 22)] ⟨rfl, trivial⟩ ?_
        refine (d_call (vs := [_]) rfl (fconcat_any _ _ _ _ (by assumption) (cBytes_le gs ep fr lf ms kd bs))).mono ?_
        rintro v W2 ⟨o1, k1⟩; exact ⟨k1, o1.lo hk.size⟩
    rintro w4 k4 vs hv
    have z_k4 := k4.size
    replace hb1 := hb1.keep0 k4
    replace hB := hB.trans k4
    have e33 : OwnB w4 w1.heap.size (vs 23) (cBytes gs ep fr lf ms kd bs) := hv 23 (by decide) rfl
    refine ow_keep [(33, vs 23), (1, _), (3, _), (0, _), (4, _), (5, _), (6, _)] ⟨rfl, rfl, rfl, rfl, rfl, rfl, rfl, trivial⟩ ?_
    have o3 := e33
    have u_o3 := o3.blk
    refine ow_g (g_as rfl) rfl ?_
    refine ow_nil ?_
    refine tw_ret1 hfin Try.results44 rfl ?_
    exact ⟨(by assumption : OwnB _ _ _ _).lo (by omega), hB⟩

theorem rightB_len {gs : List UInt8} {ep fr lf : Int} {ms : List UInt8} {kd : Int} {bs : List UInt8} (h : rightB gs ep fr lf ms kd bs = true) : gs.length ≤ 65536 ∧ ms.length ≤ 65536 ∧ bs.length ≤ 65536 := by
  simp only [rightB, comB, Bool.and_eq_true, decide_eq_true_eq] at h
  omega
def putE (gs : List UInt8) (ep fr lf : Int) (ms : List UInt8) (kd : Int) (bs : List UInt8) : Int := bif rightB gs ep fr lf ms kd bs then 0 else 1
def putB (gs : List UInt8) (ep fr lf : Int) (ms : List UInt8) (kd : Int) (bs : List UInt8) : List UInt8 := bif rightB gs ep fr lf ms kd bs then cBytes gs ep fr lf ms kd bs else []
set_option maxRecDepth 100000 in
theorem put_content_any (g m b : Value) (gs ms bs : List UInt8) (ep fr lf kd : Int) (w : World) (hg : RdB w g gs) (hm : RdB w m ms) (hb : RdB w b bs) : Rets Try.prog 8 [.agg [g, .int .i64 ep, .int .i64 fr, .int .i64 lf, m, .int .i64 kd, b].toArray] w (fun v w' => ∃ u, v = .tuple #[u, .int .i64 (putE gs ep fr lf ms kd bs)] ∧ OwnB w' w.heap.size u (putB gs ep fr lf ms kd bs) ∧ Keep [] w w') := by
  have hB : Keep [] w w := Keep.refl _ _
  refine rets_of_tw Try.func8 rfl (by decide) Try.ntmps8 rfl (fun fin _ hfin => ?_)
  refine tw_seq ?_
  refine tw_region ?_
  refine ow_d (d_box (cs := [_, _, _, _, _, _, _]) rfl rfl) rfl ?_
  rintro _ w1 ⟨b1, rfl, eb1, hb1, k1, z1⟩
  have z_k1 := k1.size
  replace hB := hB.trans k1
  refine ow_g (g_as rfl) rfl ?_
  refine ow_g (g_as rfl) rfl ?_
  refine ow_nil ?_
  refine tw_seq ?_
  refine tw_seq ?_
  refine tw_region ?_
  refine ow_g (g_ldab (cs' := [_, _, _, _, _, _, _]) ag28 ty28 rfl (by assumption) rfl rfl) rfl ?_
  refine ow_d (d_call (vs := [_]) rfl (right_any _ _ _ _ _ _ _ _ _ _ _ (by first | assumption | exact Own.rd (by assumption) | exact Rd.keep0 (by assumption) hB | exact Own.rd (Own.keep0 (by assumption) hB)) (by first | assumption | exact Own.rd (by assumption) | exact Rd.keep0 (by assumption) hB | exact Own.rd (Own.keep0 (by assumption) hB)) (by first | assumption | exact Own.rd (by assumption) | exact Rd.keep0 (by assumption) hB | exact Own.rd (Own.keep0 (by assumption) hB)))) rfl ?_
  rintro _ w2 ⟨rfl, k2⟩
  have z_k2 := k2.size
  replace hb1 := hb1.keep0 k2
  replace hB := hB.trans k2
  refine ow_g (g_not rfl) rfl ?_
  refine ow_nil ?_
  refine tw_cond rfl (fun hc1 => ?_) (fun hc1 => ?_)
  · -- yes
    have hd1 := hc1
    try (simp only [Bool.and_eq_true, Bool.or_eq_true, decide_eq_true_eq, Bool.and_eq_false_iff, Bool.or_eq_false_iff, decide_eq_false_iff_not, Bool.not_eq_true', Bool.not_eq_false', Bool.not_eq_true, Bool.not_eq_false, ne_eq, Decidable.not_not] at hd1)
    refine tw_seq ?_
    refine tw_region ?_
    refine ow_g (g_as rfl) rfl ?_
    refine ow_g (g_as rfl) rfl ?_
    refine ow_nil ?_
    refine tw_ret2 hfin Try.results8 rfl rfl ?_
    have hR : rightB gs ep fr lf ms kd bs = true ∨ rightB gs ep fr lf ms kd bs = false := by cases rightB gs ep fr lf ms kd bs <;> simp
    first
    | (have hr : rightB gs ep fr lf ms kd bs = false := by simpa using hc1
       refine ⟨_, by unfold putE; rw [hr]; rfl, ?_, hB⟩
       unfold putB; rw [hr]; exact own_nil _ _ _ _)
    | (have hr : rightB gs ep fr lf ms kd bs = true := by simpa using hc1
       refine ⟨_, by unfold putE; rw [hr]; rfl, ?_, hB⟩
       unfold putB; rw [hr]; exact (by assumption : OwnB _ _ _ _).lo (by omega))
  · -- no
    have hd2 := hc1
    try (simp only [Bool.and_eq_true, Bool.or_eq_true, decide_eq_true_eq, Bool.and_eq_false_iff, Bool.or_eq_false_iff, decide_eq_false_iff_not, Bool.not_eq_true', Bool.not_eq_false', Bool.not_eq_true, Bool.not_eq_false, ne_eq, Decidable.not_not] at hd2)
    refine tw_skip ?_
    refine tw_seq ?_
    refine tw_region ?_
    refine ow_g (g_ldab (cs' := [_, _, _, _, _, _, _]) ag28 ty28 rfl (by assumption) rfl rfl) rfl ?_
    have hlen := rightB_len (by first | assumption | simpa using hd1 | simpa using hc1)
    refine ow_d (d_call (vs := [_]) rfl (bytes_any _ _ _ _ _ _ _ _ _ _ _ (by first | assumption | exact Own.rd (by assumption) | exact Rd.keep0 (by assumption) hB | exact Own.rd (Own.keep0 (by assumption) hB)) (by first | assumption | exact Own.rd (by assumption) | exact Rd.keep0 (by assumption) hB | exact Own.rd (Own.keep0 (by assumption) hB)) (by first | assumption | exact Own.rd (by assumption) | exact Rd.keep0 (by assumption) hB | exact Own.rd (Own.keep0 (by assumption) hB)) hlen.1 hlen.2.1 hlen.2.2)) rfl ?_
    rintro v1 w3 ⟨o1, k3⟩
    have z_k3 := k3.size
    replace hb1 := hb1.keep0 k3
    replace hB := hB.trans k3
    have u_o1 := o1.blk
    refine ow_g (g_as rfl) rfl ?_
    refine ow_g (g_as rfl) rfl ?_
    refine ow_nil ?_
    refine tw_ret2 hfin Try.results8 rfl rfl ?_
    have hR : rightB gs ep fr lf ms kd bs = true ∨ rightB gs ep fr lf ms kd bs = false := by cases rightB gs ep fr lf ms kd bs <;> simp
    first
    | (have hr : rightB gs ep fr lf ms kd bs = false := by simpa using hc1
       refine ⟨_, by unfold putE; rw [hr]; rfl, ?_, hB⟩
       unfold putB; rw [hr]; exact own_nil _ _ _ _)
    | (have hr : rightB gs ep fr lf ms kd bs = true := by simpa using hc1
       refine ⟨_, by unfold putE; rw [hr]; rfl, ?_, hB⟩
       unfold putB; rw [hr]; exact (by assumption : OwnB _ _ _ _).lo (by omega))

set_option maxRecDepth 100000 in
theorem copied_any (v : Value) (xs : List UInt8) (w : World) (hv : RdB w v xs) (hx : xs.length ≤ 140737488355328) : Rets Try.prog 45 [v] w (fun u w' => OwnB w' w.heap.size u xs ∧ Keep [] w w') := by
  have hB : Keep [] w w := Keep.refl _ _
  refine rets_of_tw Try.func45 rfl (by decide) Try.ntmps45 rfl (fun fin _ hfin => ?_)
  refine tw_seq ?_
  refine tw_region ?_
  refine ow_g (g_as rfl) rfl ?_
  refine ow_nil ?_
  refine tw_seq ?_
  refine tw_region ?_
  refine ow_d (d_bs (m := 0) (xs := []) (vs := []) Try.underlying22 ty5 (by decide) rfl rfl rfl (by simp) (by decide)) rfl ?_
  rintro v1 w1 ⟨o1, nn1, lb1, k1, z1⟩
  have z_k1 := k1.size
  replace hB := hB.trans k1
  have u_o1 := o1.blk
  replace o1 : Own w1 _ _ 1 v1 0 (bv []) := o1
  refine ow_g (g_mv rfl) rfl ?_
  refine ow_d (d_appB  Try.underlying22 ty5 rfl (by first | assumption | exact own_nil _ _ _ _) rfl (by first | assumption | exact Own.rd (by assumption) | exact Rd.keep0 (by assumption) hB | exact Own.rd (Own.keep0 (by assumption) hB)) (by first | omega | (simp only [bv_length, List.length_append, Int.toNat_natCast] at *; omega)) (by have := hB.size; omega)) rfl ?_
  rintro v2 w2 ⟨o2, k2, lb2, nn2⟩
  replace hB := hB.new k2 (fun x hx => .inl (o1.blk x hx).1)
  have u_o2 := fun x hx => (lb2 x hx).elim (fun h => Or.inl (u_o1 x h)) (fun h => Or.inr (And.intro h (o2.blk x hx).2))
  refine ow_g (g_as rfl) rfl ?_
  refine ow_nil ?_
  refine tw_ret1 hfin Try.results45 rfl ?_
  exact ⟨by simpa [OwnB] using o2, hB⟩

set_option maxRecDepth 100000 in
theorem num_any (n : Int) (w : World) : Rets Try.prog 10 [.int .i64 n] w (fun v w' => v = .int .i64 n ∧ w = w') := by
  refine rets_of_tw Try.func10 rfl (by decide) Try.ntmps10 rfl (fun fin _ hfin => ?_)
  refine tw_seq ?_
  refine tw_region ?_
  refine ow_g (g_as rfl) rfl ?_
  refine ow_nil ?_
  refine tw_seq ?_
  refine tw_region ?_
  refine ow_g (g_mv rfl) rfl ?_
  refine ow_g (g_as rfl) rfl ?_
  refine ow_nil ?_
  refine tw_ret1 hfin Try.results10 rfl ?_
  exact ⟨rfl, rfl⟩

set_option maxRecDepth 100000 in
theorem content_any (g m b : Value) (gs ms bs : List UInt8) (ep fr lf kd : Int) (w : World) (hg : RdB w g gs) (hm : RdB w m ms) (hb : RdB w b bs) (sg : gs.length ≤ 140737488355328) (sm : ms.length ≤ 140737488355328) (sb : bs.length ≤ 140737488355328) : Rets Try.prog 9 [.agg [g, .int .i64 ep, .int .i64 fr, .int .i64 lf, m, .int .i64 kd, b].toArray] w (fun v w' => ∃ g' m' b', v = .agg [g', .int .i64 ep, .int .i64 fr, .int .i64 lf, m', .int .i64 kd, b'].toArray ∧ OwnB w' w.heap.size g' gs ∧ OwnB w' w.heap.size m' ms ∧ OwnB w' w.heap.size b' bs ∧ Keep [] w w') := by
  have hB : Keep [] w w := Keep.refl _ _
  refine rets_of_tw Try.func9 rfl (by decide) Try.ntmps9 rfl (fun fin _ hfin => ?_)
  refine tw_seq ?_
  refine tw_region ?_
  refine ow_d (d_box (cs := [_, _, _, _, _, _, _]) rfl rfl) rfl ?_
  rintro _ w1 ⟨b1, rfl, eb1, hb1, k1, z1⟩
  have z_k1 := k1.size
  replace hB := hB.trans k1
  refine ow_d (d_alloc ty28) rfl ?_
  rintro _ w2 ⟨b2, rfl, eb2, hb2, k2, z2⟩
  have z_k2 := k2.size
  replace hb1 := hb1.keep0 k2
  replace hB := hB.trans k2
  refine ow_nil ?_
  refine tw_seq ?_
  refine tw_drawnT 18 mixed [(1, _), (2, _), (0, _)] (fun i v W => match i with | 0 => v = .pointer (some ⟨b1, 0 + 0, none⟩) | 1 => v = g | 2 => OwnB W w2.heap.size v (gs) | 3 => v = .pointer (some ⟨b1, 0 + 1, none⟩) | 4 => v = .int .i64 ep | 5 => v = .pointer (some ⟨b1, 0 + 2, none⟩) | 6 => v = .int .i64 fr | 7 => v = .pointer (some ⟨b1, 0 + 3, none⟩) | 8 => v = .int .i64 lf | 9 => v = .pointer (some ⟨b1, 0 + 4, none⟩) | 10 => v = m | 11 => OwnB W w2.heap.size v (ms) | 12 => v = .pointer (some ⟨b1, 0 + 5, none⟩) | 13 => v = .int .i64 kd | 14 => v = .pointer (some ⟨b1, 0 + 6, none⟩) | 15 => v = b | 16 => OwnB W w2.heap.size v (bs) | 17 => ∃ g' m' b', v = .agg [g', .int .i64 ep, .int .i64 fr, .int .i64 lf, m', .int .i64 kd, b'].toArray ∧ OwnB W w2.heap.size  g' gs ∧ OwnB W w2.heap.size  m' ms ∧ OwnB W w2.heap.size  b' bs | _ => True) ⟨rfl, rfl, rfl, trivial⟩ (by decide) (by decide) rfl ?_ ?_ ?_
  · intro i v W W' h k
    match i, h with
    | 0, h => exact h
    | 1, h => exact h
    | 2, h => exact h.keep0 k
    | 3, h => exact h
    | 4, h => exact h
    | 5, h => exact h
    | 6, h => exact h
    | 7, h => exact h
    | 8, h => exact h
    | 9, h => exact h
    | 10, h => exact h
    | 11, h => exact h.keep0 k
    | 12, h => exact h
    | 13, h => exact h
    | 14, h => exact h
    | 15, h => exact h
    | 16, h => exact h.keep0 k
    | 17, h => exact (by obtain ⟨g', m', b', h1, h2, h3, h4⟩ := h; exact ⟨g', m', b', h1, h2.keep0 k, h3.keep0 k, h4.keep0 k⟩)
    | _ + 18, _ => trivial
  · refine ⟨?_, ?_, ?_, ?_, ?_, ?_, ?_, ?_, ?_, ?_, ?_, ?_, ?_, ?_, ?_, ?_, ?_, ?_, trivial⟩
    · refine ⟨[], rfl, ?_⟩; rintro W1 hk vs hd
      replace hb1 := hb1.keep0 hk
      replace hb2 := hb2.keep0 hk
      replace hB := hB.trans hk
      refine ⟨true, fun a _ => rfl, fun _ => ?_, fun h => by cases h⟩
      refine does_sub [(1, _)] ⟨rfl, trivial⟩ ?_
      refine (Gives.does (g_fa Try.underlying24 rfl ty22 (by decide) rfl)).mono ?_
      rintro v W2 ⟨rfl, rfl⟩
      exact ⟨Keep.refl _ _, rfl⟩
    · refine ⟨[0], rfl, ?_⟩; rintro W1 hk vs hd
      have d0 : (vs 0) = .pointer (some ⟨b1, 0 + 0, none⟩) := hd 0 (by decide)
      replace hb1 := hb1.keep0 hk
      replace hb2 := hb2.keep0 hk
      replace hB := hB.trans hk
      refine ⟨true, fun a _ => rfl, fun _ => ?_, fun h => by cases h⟩
      refine does_sub [(3, .pointer (some ⟨b1, 0 + 0, none⟩))] ⟨congrArg some d0, trivial⟩ ?_
      refine (Gives.does (g_ldb sc22 rfl (by assumption) rfl)).mono ?_
      rintro v W2 ⟨rfl, rfl⟩
      exact ⟨Keep.refl _ _, rfl⟩
    · refine ⟨[1], rfl, ?_⟩; rintro W1 hk vs hd
      have d1 : (vs 1) = g := hd 1 (by decide)
      replace hb1 := hb1.keep0 hk
      replace hb2 := hb2.keep0 hk
      replace hB := hB.trans hk
      refine ⟨true, fun a _ => rfl, fun _ => ?_, fun h => by cases h⟩
      refine does_sub [(4, g)] ⟨congrArg some d1, trivial⟩ ?_
      refine (d_call (vs := [_]) rfl (copied_any _ _ _ (by first | assumption | exact Own.rd (by assumption) | exact Rd.keep0 (by assumption) hB | exact Own.rd (Own.keep0 (by assumption) hB)) (by assumption))).mono ?_
      rintro v W2 ⟨o1, k1⟩; exact ⟨k1, o1.lo hk.size⟩
    · refine ⟨[], rfl, ?_⟩; rintro W1 hk vs hd
      replace hb1 := hb1.keep0 hk
      replace hb2 := hb2.keep0 hk
      replace hB := hB.trans hk
      refine ⟨true, fun a _ => rfl, fun _ => ?_, fun h => by cases h⟩
      refine does_sub [(1, _)] ⟨rfl, trivial⟩ ?_
      refine (Gives.does (g_fa Try.underlying24 rfl ty3 (by decide) rfl)).mono ?_
      rintro v W2 ⟨rfl, rfl⟩
      exact ⟨Keep.refl _ _, rfl⟩
    · refine ⟨[3], rfl, ?_⟩; rintro W1 hk vs hd
      have d3 : (vs 3) = .pointer (some ⟨b1, 0 + 1, none⟩) := hd 3 (by decide)
      replace hb1 := hb1.keep0 hk
      replace hb2 := hb2.keep0 hk
      replace hB := hB.trans hk
      refine ⟨true, fun a _ => rfl, fun _ => ?_, fun h => by cases h⟩
      refine does_sub [(6, .pointer (some ⟨b1, 0 + 1, none⟩))] ⟨congrArg some d3, trivial⟩ ?_
      refine (Gives.does (g_ldb sc3 rfl (by assumption) rfl)).mono ?_
      rintro v W2 ⟨rfl, rfl⟩
      exact ⟨Keep.refl _ _, rfl⟩
    · refine ⟨[], rfl, ?_⟩; rintro W1 hk vs hd
      replace hb1 := hb1.keep0 hk
      replace hb2 := hb2.keep0 hk
      replace hB := hB.trans hk
      refine ⟨true, fun a _ => rfl, fun _ => ?_, fun h => by cases h⟩
      refine does_sub [(1, _)] ⟨rfl, trivial⟩ ?_
      refine (Gives.does (g_fa Try.underlying24 rfl ty3 (by decide) rfl)).mono ?_
      rintro v W2 ⟨rfl, rfl⟩
      exact ⟨Keep.refl _ _, rfl⟩
    · refine ⟨[5], rfl, ?_⟩; rintro W1 hk vs hd
      have d5 : (vs 5) = .pointer (some ⟨b1, 0 + 2, none⟩) := hd 5 (by decide)
      replace hb1 := hb1.keep0 hk
      replace hb2 := hb2.keep0 hk
      replace hB := hB.trans hk
      refine ⟨true, fun a _ => rfl, fun _ => ?_, fun h => by cases h⟩
      refine does_sub [(8, .pointer (some ⟨b1, 0 + 2, none⟩))] ⟨congrArg some d5, trivial⟩ ?_
      refine (Gives.does (g_ldb sc3 rfl (by assumption) rfl)).mono ?_
      rintro v W2 ⟨rfl, rfl⟩
      exact ⟨Keep.refl _ _, rfl⟩
    · refine ⟨[], rfl, ?_⟩; rintro W1 hk vs hd
      replace hb1 := hb1.keep0 hk
      replace hb2 := hb2.keep0 hk
      replace hB := hB.trans hk
      refine ⟨true, fun a _ => rfl, fun _ => ?_, fun h => by cases h⟩
      refine does_sub [(1, _)] ⟨rfl, trivial⟩ ?_
      refine (Gives.does (g_fa Try.underlying24 rfl ty3 (by decide) rfl)).mono ?_
      rintro v W2 ⟨rfl, rfl⟩
      exact ⟨Keep.refl _ _, rfl⟩
    · refine ⟨[7], rfl, ?_⟩; rintro W1 hk vs hd
      have d7 : (vs 7) = .pointer (some ⟨b1, 0 + 3, none⟩) := hd 7 (by decide)
      replace hb1 := hb1.keep0 hk
      replace hb2 := hb2.keep0 hk
      replace hB := hB.trans hk
      refine ⟨true, fun a _ => rfl, fun _ => ?_, fun h => by cases h⟩
      refine does_sub [(10, .pointer (some ⟨b1, 0 + 3, none⟩))] ⟨congrArg some d7, trivial⟩ ?_
      refine (Gives.does (g_ldb sc3 rfl (by assumption) rfl)).mono ?_
      rintro v W2 ⟨rfl, rfl⟩
      exact ⟨Keep.refl _ _, rfl⟩
    · refine ⟨[], rfl, ?_⟩; rintro W1 hk vs hd
      replace hb1 := hb1.keep0 hk
      replace hb2 := hb2.keep0 hk
      replace hB := hB.trans hk
      refine ⟨true, fun a _ => rfl, fun _ => ?_, fun h => by cases h⟩
      refine does_sub [(1, _)] ⟨rfl, trivial⟩ ?_
      refine (Gives.does (g_fa Try.underlying24 rfl ty22 (by decide) rfl)).mono ?_
      rintro v W2 ⟨rfl, rfl⟩
      exact ⟨Keep.refl _ _, rfl⟩
    · refine ⟨[9], rfl, ?_⟩; rintro W1 hk vs hd
      have d9 : (vs 9) = .pointer (some ⟨b1, 0 + 4, none⟩) := hd 9 (by decide)
      replace hb1 := hb1.keep0 hk
      replace hb2 := hb2.keep0 hk
      replace hB := hB.trans hk
      refine ⟨true, fun a _ => rfl, fun _ => ?_, fun h => by cases h⟩
      refine does_sub [(12, .pointer (some ⟨b1, 0 + 4, none⟩))] ⟨congrArg some d9, trivial⟩ ?_
      refine (Gives.does (g_ldb sc22 rfl (by assumption) rfl)).mono ?_
      rintro v W2 ⟨rfl, rfl⟩
      exact ⟨Keep.refl _ _, rfl⟩
    · refine ⟨[10], rfl, ?_⟩; rintro W1 hk vs hd
      have d10 : (vs 10) = m := hd 10 (by decide)
      replace hb1 := hb1.keep0 hk
      replace hb2 := hb2.keep0 hk
      replace hB := hB.trans hk
      refine ⟨true, fun a _ => rfl, fun _ => ?_, fun h => by cases h⟩
      refine does_sub [(13, m)] ⟨congrArg some d10, trivial⟩ ?_
      refine (d_call (vs := [_]) rfl (copied_any _ _ _ (by first | assumption | exact Own.rd (by assumption) | exact Rd.keep0 (by assumption) hB | exact Own.rd (Own.keep0 (by assumption) hB)) (by assumption))).mono ?_
      rintro v W2 ⟨o1, k1⟩; exact ⟨k1, o1.lo hk.size⟩
    · refine ⟨[], rfl, ?_⟩; rintro W1 hk vs hd
      replace hb1 := hb1.keep0 hk
      replace hb2 := hb2.keep0 hk
      replace hB := hB.trans hk
      refine ⟨true, fun a _ => rfl, fun _ => ?_, fun h => by cases h⟩
      refine does_sub [(1, _)] ⟨rfl, trivial⟩ ?_
      refine (Gives.does (g_fa Try.underlying24 rfl ty3 (by decide) rfl)).mono ?_
      rintro v W2 ⟨rfl, rfl⟩
      exact ⟨Keep.refl _ _, rfl⟩
    · refine ⟨[12], rfl, ?_⟩; rintro W1 hk vs hd
      have d12 : (vs 12) = .pointer (some ⟨b1, 0 + 5, none⟩) := hd 12 (by decide)
      replace hb1 := hb1.keep0 hk
      replace hb2 := hb2.keep0 hk
      replace hB := hB.trans hk
      refine ⟨true, fun a _ => rfl, fun _ => ?_, fun h => by cases h⟩
      refine does_sub [(15, .pointer (some ⟨b1, 0 + 5, none⟩))] ⟨congrArg some d12, trivial⟩ ?_
      refine (Gives.does (g_ldb sc3 rfl (by assumption) rfl)).mono ?_
      rintro v W2 ⟨rfl, rfl⟩
      exact ⟨Keep.refl _ _, rfl⟩
    · refine ⟨[], rfl, ?_⟩; rintro W1 hk vs hd
      replace hb1 := hb1.keep0 hk
      replace hb2 := hb2.keep0 hk
      replace hB := hB.trans hk
      refine ⟨true, fun a _ => rfl, fun _ => ?_, fun h => by cases h⟩
      refine does_sub [(1, _)] ⟨rfl, trivial⟩ ?_
      refine (Gives.does (g_fa Try.underlying24 rfl ty22 (by decide) rfl)).mono ?_
      rintro v W2 ⟨rfl, rfl⟩
      exact ⟨Keep.refl _ _, rfl⟩
    · refine ⟨[14], rfl, ?_⟩; rintro W1 hk vs hd
      have d14 : (vs 14) = .pointer (some ⟨b1, 0 + 6, none⟩) := hd 14 (by decide)
      replace hb1 := hb1.keep0 hk
      replace hb2 := hb2.keep0 hk
      replace hB := hB.trans hk
      refine ⟨true, fun a _ => rfl, fun _ => ?_, fun h => by cases h⟩
      refine does_sub [(17, .pointer (some ⟨b1, 0 + 6, none⟩))] ⟨congrArg some d14, trivial⟩ ?_
      refine (Gives.does (g_ldb sc22 rfl (by assumption) rfl)).mono ?_
      rintro v W2 ⟨rfl, rfl⟩
      exact ⟨Keep.refl _ _, rfl⟩
    · refine ⟨[15], rfl, ?_⟩; rintro W1 hk vs hd
      have d15 : (vs 15) = b := hd 15 (by decide)
      replace hb1 := hb1.keep0 hk
      replace hb2 := hb2.keep0 hk
      replace hB := hB.trans hk
      refine ⟨true, fun a _ => rfl, fun _ => ?_, fun h => by cases h⟩
      refine does_sub [(18, b)] ⟨congrArg some d15, trivial⟩ ?_
      refine (d_call (vs := [_]) rfl (copied_any _ _ _ (by first | assumption | exact Own.rd (by assumption) | exact Rd.keep0 (by assumption) hB | exact Own.rd (Own.keep0 (by assumption) hB)) (by assumption))).mono ?_
      rintro v W2 ⟨o1, k1⟩; exact ⟨k1, o1.lo hk.size⟩
    · refine ⟨[2, 4, 6, 8, 11, 13, 16], rfl, ?_⟩; rintro W1 hk vs hd
      have d2 : OwnB W1 w2.heap.size (vs 2) (gs) := hd 2 (by decide)
      have d4 : (vs 4) = .int .i64 ep := hd 4 (by decide)
      have d6 : (vs 6) = .int .i64 fr := hd 6 (by decide)
      have d8 : (vs 8) = .int .i64 lf := hd 8 (by decide)
      have d11 : OwnB W1 w2.heap.size (vs 11) (ms) := hd 11 (by decide)
      have d13 : (vs 13) = .int .i64 kd := hd 13 (by decide)
      have d16 : OwnB W1 w2.heap.size (vs 16) (bs) := hd 16 (by decide)
      replace hb1 := hb1.keep0 hk
      replace hb2 := hb2.keep0 hk
      replace hB := hB.trans hk
      refine ⟨true, fun a _ => rfl, fun _ => ?_, fun h => by cases h⟩
      refine does_sub [(5, vs 2), (7, .int .i64 ep), (9, .int .i64 fr), (11, .int .i64 lf), (14, vs 11), (16, .int .i64 kd), (19, vs 16)] ⟨rfl, congrArg some d4, congrArg some d6, congrArg some d8, rfl, congrArg some d13, rfl, trivial⟩ ?_
      refine (Gives.does (g_bld (idx := [0, 1, 2, 3, 4, 5, 6]) (xs := [.tmp 5, .tmp 7, .tmp 9, .tmp 11, .tmp 14, .tmp 16, .tmp 19]) (vs := [_, _, _, _, _, _, _]) (css := [[_], [_], [_], [_], [_], [_], [_]]) (out := [_, _, _, _, _, _, _]) pl28 ty28 rfl rfl ⟨Rd.cells (by first | assumption | exact Own.rd (by assumption) | exact Rd.keep0 (by assumption) hB | exact Own.rd (Own.keep0 (by assumption) hB)), rfl, rfl, rfl, Rd.cells (by first | assumption | exact Own.rd (by assumption) | exact Rd.keep0 (by assumption) hB | exact Own.rd (Own.keep0 (by assumption) hB)), rfl, Rd.cells (by first | assumption | exact Own.rd (by assumption) | exact Rd.keep0 (by assumption) hB | exact Own.rd (Own.keep0 (by assumption) hB)), trivial⟩ rfl rfl)).mono ?_
      rintro v W2 ⟨rfl, rfl⟩
      exact ⟨Keep.refl _ _, vs 2, vs 11, vs 16, rfl, d2, d11, d16⟩
  rintro w3 k3 vs hv
  have z_k3 := k3.size
  replace hb1 := hb1.keep0 k3
  replace hb2 := hb2.keep0 k3
  replace hB := hB.trans k3
  have e20 : ∃ g' m' b', (vs 17) = .agg [g', .int .i64 ep, .int .i64 fr, .int .i64 lf, m', .int .i64 kd, b'].toArray ∧ OwnB w3 w2.heap.size  g' gs ∧ OwnB w3 w2.heap.size  m' ms ∧ OwnB w3 w2.heap.size  b' bs := hv 17 (by decide) rfl
  refine ow_keep [(20, vs 17), (1, _), (2, _), (0, _)] ⟨rfl, rfl, rfl, rfl, trivial⟩ ?_
  obtain ⟨g', m', b', h17, og, om, ob⟩ := e20
  rw [h17]
  have u_og := og.blk
  have u_om := om.blk
  have u_ob := ob.blk
  refine ow_d0 (d_sta ty28 rfl rfl rfl (by simp only [List.forall_mem_cons]; refine ⟨(by first | rfl | exact Rd.one (by first | assumption | exact Own.rd (by assumption) | exact Rd.keep0 (by assumption) hB | exact Own.rd (Own.keep0 (by assumption) hB))), (by first | rfl | exact Rd.one (by first | assumption | exact Own.rd (by assumption) | exact Rd.keep0 (by assumption) hB | exact Own.rd (Own.keep0 (by assumption) hB))), (by first | rfl | exact Rd.one (by first | assumption | exact Own.rd (by assumption) | exact Rd.keep0 (by assumption) hB | exact Own.rd (Own.keep0 (by assumption) hB))), (by first | rfl | exact Rd.one (by first | assumption | exact Own.rd (by assumption) | exact Rd.keep0 (by assumption) hB | exact Own.rd (Own.keep0 (by assumption) hB))), (by first | rfl | exact Rd.one (by first | assumption | exact Own.rd (by assumption) | exact Rd.keep0 (by assumption) hB | exact Own.rd (Own.keep0 (by assumption) hB))), (by first | rfl | exact Rd.one (by first | assumption | exact Own.rd (by assumption) | exact Rd.keep0 (by assumption) hB | exact Own.rd (Own.keep0 (by assumption) hB))), (by first | rfl | exact Rd.one (by first | assumption | exact Own.rd (by assumption) | exact Rd.keep0 (by assumption) hB | exact Own.rd (Own.keep0 (by assumption) hB))), fun v hv => by cases hv⟩) hb2 rfl) ?_
  rintro _ w4 ⟨hb3, k4, z3⟩
  have z_k4 := k4.size
  replace hb1 := hb1.keep k4 (fun hm => by have h2 := List.mem_singleton.1 hm; omega)
  replace og := og.keep k4 (fun x hx hm => by have h1 := u_og x hx; have h2 := List.mem_singleton.1 hm; omega)
  replace om := om.keep k4 (fun x hx hm => by have h1 := u_om x hx; have h2 := List.mem_singleton.1 hm; omega)
  replace ob := ob.keep k4 (fun x hx hm => by have h1 := u_ob x hx; have h2 := List.mem_singleton.1 hm; omega)
  replace hB := hB.new k4 (fun x hx => .inl (by have h2 := List.mem_singleton.1 hx; omega))
  refine ow_nil ?_
  refine tw_retc hfin Try.results9 rfl (run_loadAgg ag28 ty28 (by assumption) rfl)  ?_
  exact ⟨g', m', b', rfl, og.lo (by omega), om.lo (by omega), ob.lo (by omega), hB⟩

def sameB (gs : List UInt8) (ep fr lf : Int) (ms : List UInt8) (kd : Int) (bs : List UInt8) (gs2 : List UInt8) (ep2 fr2 lf2 : Int) (ms2 : List UInt8) (kd2 : Int) (bs2 : List UInt8) : Bool :=
  decide (gs = gs2) && decide (ep = ep2) && decide (fr = fr2) && decide (lf = lf2) && decide (ms = ms2) && decide (kd = kd2) && decide (bs = bs2)
set_option maxRecDepth 100000 in
theorem same_content_any (g m b : Value) (gs ms bs : List UInt8) (ep fr lf kd : Int) (w : World) (hg : RdB w g gs) (hm : RdB w m ms) (hb : RdB w b bs) (g2 m2 b2 : Value) (gs2 ms2 bs2 : List UInt8) (ep2 fr2 lf2 kd2 : Int) (hg2 : RdB w g2 gs2) (hm2 : RdB w m2 ms2) (hb2 : RdB w b2 bs2) : Rets Try.prog 12 [.agg [g, .int .i64 ep, .int .i64 fr, .int .i64 lf, m, .int .i64 kd, b].toArray, .agg [g2, .int .i64 ep2, .int .i64 fr2, .int .i64 lf2, m2, .int .i64 kd2, b2].toArray] w (fun v w' => v = .bool (sameB gs ep fr lf ms kd bs gs2 ep2 fr2 lf2 ms2 kd2 bs2) ∧ Keep [] w w') := by
  have hB : Keep [] w w := Keep.refl _ _
  refine rets_of_tw Try.func12 rfl (by decide) Try.ntmps12 rfl (fun fin _ hfin => ?_)
  refine tw_seq ?_
  refine tw_region ?_
  refine ow_d (d_box (cs := [_, _, _, _, _, _, _]) rfl rfl) rfl ?_
  rintro _ w1 ⟨b1, rfl, eb1, hb1, k1, z1⟩
  have z_k1 := k1.size
  replace hB := hB.trans k1
  refine ow_d (d_box (cs := [_, _, _, _, _, _, _]) rfl rfl) rfl ?_
  rintro _ w2 ⟨b2, rfl, eb2, hb2, k2, z2⟩
  have z_k2 := k2.size
  replace hb1 := hb1.keep0 k2
  replace hB := hB.trans k2
  refine ow_g (g_as rfl) rfl ?_
  refine ow_nil ?_
  refine tw_seq ?_
  refine tw_region ?_
  refine ow_g (g_fa Try.underlying28 rfl ty22 (by decide) rfl) rfl ?_
  refine ow_g (g_ldb sc22 rfl (by assumption) rfl) rfl ?_
  refine ow_g (g_str Try.underlying22 Try.underlying5 Try.underlying9 rfl (by first | assumption | exact Own.rd (by assumption) | exact Rd.keep0 (by assumption) hB | exact Own.rd (Own.keep0 (by assumption) hB))) rfl ?_
  refine ow_g (g_fa Try.underlying24 rfl ty22 (by decide) rfl) rfl ?_
  refine ow_g (g_ldb sc22 rfl (by assumption) rfl) rfl ?_
  refine ow_g (g_str Try.underlying22 Try.underlying5 Try.underlying9 rfl (by first | assumption | exact Own.rd (by assumption) | exact Rd.keep0 (by assumption) hB | exact Own.rd (Own.keep0 (by assumption) hB))) rfl ?_
  refine ow_g (g_eqs rfl rfl) rfl ?_
  refine ow_g (g_mv rfl) rfl ?_
  refine ow_grp 12 true rfl (fun c1 hgc1 => ?_)
  refine ow_gg [(2, _)] (grd1 rfl rfl rfl hgc1) ⟨und0 rfl, trivial⟩ (fun hw1 => g_fa Try.underlying28 rfl ty3 (by decide) rfl) rfl ?_
  refine ow_gg [(13, _)] (grd1 rfl rfl rfl hgc1) ⟨und1 rfl, trivial⟩ (fun hw2 => g_ldb sc3 rfl (by assumption) rfl) rfl ?_
  refine ow_gg [(3, _)] (grd1 rfl rfl rfl hgc1) ⟨und0 rfl, trivial⟩ (fun hw3 => g_fa Try.underlying24 rfl ty3 (by decide) rfl) rfl ?_
  refine ow_gg [(15, _)] (grd1 rfl rfl rfl hgc1) ⟨und1 rfl, trivial⟩ (fun hw4 => g_ldb sc3 rfl (by assumption) rfl) rfl ?_
  refine ow_gg [(14, _), (16, _)] (grd1 rfl rfl rfl hgc1) ⟨und1 rfl, und1 rfl, trivial⟩ (fun hw5 => g_eq rfl rfl) rfl ?_
  refine ow_g (g_pand rfl rfl hgc1) rfl ?_
  refine ow_g (g_mv rfl) rfl ?_
  refine ow_grp 19 true rfl (fun c2 hgc2 => ?_)
  refine ow_gg [(2, _)] (grd1 rfl rfl rfl hgc2) ⟨und0 rfl, trivial⟩ (fun hw6 => g_fa Try.underlying28 rfl ty3 (by decide) rfl) rfl ?_
  refine ow_gg [(20, _)] (grd1 rfl rfl rfl hgc2) ⟨und1 rfl, trivial⟩ (fun hw7 => g_ldb sc3 rfl (by assumption) rfl) rfl ?_
  refine ow_gg [(3, _)] (grd1 rfl rfl rfl hgc2) ⟨und0 rfl, trivial⟩ (fun hw8 => g_fa Try.underlying24 rfl ty3 (by decide) rfl) rfl ?_
  refine ow_gg [(22, _)] (grd1 rfl rfl rfl hgc2) ⟨und1 rfl, trivial⟩ (fun hw9 => g_ldb sc3 rfl (by assumption) rfl) rfl ?_
  refine ow_gg [(21, _), (23, _)] (grd1 rfl rfl rfl hgc2) ⟨und1 rfl, und1 rfl, trivial⟩ (fun hw10 => g_eq rfl rfl) rfl ?_
  refine ow_g (g_pand rfl rfl hgc2) rfl ?_
  refine ow_g (g_mv rfl) rfl ?_
  refine ow_grp 26 true rfl (fun c3 hgc3 => ?_)
  refine ow_gg [(2, _)] (grd1 rfl rfl rfl hgc3) ⟨und0 rfl, trivial⟩ (fun hw11 => g_fa Try.underlying28 rfl ty3 (by decide) rfl) rfl ?_
  refine ow_gg [(27, _)] (grd1 rfl rfl rfl hgc3) ⟨und1 rfl, trivial⟩ (fun hw12 => g_ldb sc3 rfl (by assumption) rfl) rfl ?_
  refine ow_gg [(3, _)] (grd1 rfl rfl rfl hgc3) ⟨und0 rfl, trivial⟩ (fun hw13 => g_fa Try.underlying24 rfl ty3 (by decide) rfl) rfl ?_
  refine ow_gg [(29, _)] (grd1 rfl rfl rfl hgc3) ⟨und1 rfl, trivial⟩ (fun hw14 => g_ldb sc3 rfl (by assumption) rfl) rfl ?_
  refine ow_gg [(28, _), (30, _)] (grd1 rfl rfl rfl hgc3) ⟨und1 rfl, und1 rfl, trivial⟩ (fun hw15 => g_eq rfl rfl) rfl ?_
  refine ow_g (g_pand rfl rfl hgc3) rfl ?_
  refine ow_g (g_mv rfl) rfl ?_
  refine ow_grp 33 true rfl (fun c4 hgc4 => ?_)
  refine ow_gg [(2, _)] (grd1 rfl rfl rfl hgc4) ⟨und0 rfl, trivial⟩ (fun hw16 => g_fa Try.underlying28 rfl ty22 (by decide) rfl) rfl ?_
  refine ow_gg [(34, _)] (grd1 rfl rfl rfl hgc4) ⟨und1 rfl, trivial⟩ (fun hw17 => g_ldb sc22 rfl (by assumption) rfl) rfl ?_
  refine ow_gg [(35, _)] (grd1 rfl rfl rfl hgc4) ⟨und1 rfl, trivial⟩ (fun hw18 => g_str Try.underlying22 Try.underlying5 Try.underlying9 rfl (by first | assumption | exact Own.rd (by assumption) | exact Rd.keep0 (by assumption) hB | exact Own.rd (Own.keep0 (by assumption) hB))) rfl ?_
  refine ow_gg [(3, _)] (grd1 rfl rfl rfl hgc4) ⟨und0 rfl, trivial⟩ (fun hw19 => g_fa Try.underlying24 rfl ty22 (by decide) rfl) rfl ?_
  refine ow_gg [(37, _)] (grd1 rfl rfl rfl hgc4) ⟨und1 rfl, trivial⟩ (fun hw20 => g_ldb sc22 rfl (by assumption) rfl) rfl ?_
  refine ow_gg [(38, _)] (grd1 rfl rfl rfl hgc4) ⟨und1 rfl, trivial⟩ (fun hw21 => g_str Try.underlying22 Try.underlying5 Try.underlying9 rfl (by first | assumption | exact Own.rd (by assumption) | exact Rd.keep0 (by assumption) hB | exact Own.rd (Own.keep0 (by assumption) hB))) rfl ?_
  refine ow_gg [(36, _), (39, _)] (grd1 rfl rfl rfl hgc4) ⟨und1 rfl, und1 rfl, trivial⟩ (fun hw22 => g_eqs rfl rfl) rfl ?_
  refine ow_g (g_pand rfl rfl hgc4) rfl ?_
  refine ow_g (g_mv rfl) rfl ?_
  refine ow_grp 42 true rfl (fun c5 hgc5 => ?_)
  refine ow_gg [(2, _)] (grd1 rfl rfl rfl hgc5) ⟨und0 rfl, trivial⟩ (fun hw23 => g_fa Try.underlying28 rfl ty3 (by decide) rfl) rfl ?_
  refine ow_gg [(43, _)] (grd1 rfl rfl rfl hgc5) ⟨und1 rfl, trivial⟩ (fun hw24 => g_ldb sc3 rfl (by assumption) rfl) rfl ?_
  refine ow_gg [(3, _)] (grd1 rfl rfl rfl hgc5) ⟨und0 rfl, trivial⟩ (fun hw25 => g_fa Try.underlying24 rfl ty3 (by decide) rfl) rfl ?_
  refine ow_gg [(45, _)] (grd1 rfl rfl rfl hgc5) ⟨und1 rfl, trivial⟩ (fun hw26 => g_ldb sc3 rfl (by assumption) rfl) rfl ?_
  refine ow_gg [(44, _), (46, _)] (grd1 rfl rfl rfl hgc5) ⟨und1 rfl, und1 rfl, trivial⟩ (fun hw27 => g_eq rfl rfl) rfl ?_
  refine ow_g (g_pand rfl rfl hgc5) rfl ?_
  refine ow_g (g_mv rfl) rfl ?_
  refine ow_grp 49 true rfl (fun c6 hgc6 => ?_)
  refine ow_gg [(2, _)] (grd1 rfl rfl rfl hgc6) ⟨und0 rfl, trivial⟩ (fun hw28 => g_fa Try.underlying28 rfl ty22 (by decide) rfl) rfl ?_
  refine ow_gg [(50, _)] (grd1 rfl rfl rfl hgc6) ⟨und1 rfl, trivial⟩ (fun hw29 => g_ldb sc22 rfl (by assumption) rfl) rfl ?_
  refine ow_gg [(51, _)] (grd1 rfl rfl rfl hgc6) ⟨und1 rfl, trivial⟩ (fun hw30 => g_str Try.underlying22 Try.underlying5 Try.underlying9 rfl (by first | assumption | exact Own.rd (by assumption) | exact Rd.keep0 (by assumption) hB | exact Own.rd (Own.keep0 (by assumption) hB))) rfl ?_
  refine ow_gg [(3, _)] (grd1 rfl rfl rfl hgc6) ⟨und0 rfl, trivial⟩ (fun hw31 => g_fa Try.underlying24 rfl ty22 (by decide) rfl) rfl ?_
  refine ow_gg [(53, _)] (grd1 rfl rfl rfl hgc6) ⟨und1 rfl, trivial⟩ (fun hw32 => g_ldb sc22 rfl (by assumption) rfl) rfl ?_
  refine ow_gg [(54, _)] (grd1 rfl rfl rfl hgc6) ⟨und1 rfl, trivial⟩ (fun hw33 => g_str Try.underlying22 Try.underlying5 Try.underlying9 rfl (by first | assumption | exact Own.rd (by assumption) | exact Rd.keep0 (by assumption) hB | exact Own.rd (Own.keep0 (by assumption) hB))) rfl ?_
  refine ow_gg [(52, _), (55, _)] (grd1 rfl rfl rfl hgc6) ⟨und1 rfl, und1 rfl, trivial⟩ (fun hw34 => g_eqs rfl rfl) rfl ?_
  refine ow_g (g_pand rfl rfl hgc6) rfl ?_
  refine ow_g (g_as rfl) rfl ?_
  refine ow_nil ?_
  refine tw_ret1 hfin Try.results12 rfl ?_
  exact ⟨rfl, hB⟩

end Go.Proofs.Ytdbfpmkilchilaa.W
