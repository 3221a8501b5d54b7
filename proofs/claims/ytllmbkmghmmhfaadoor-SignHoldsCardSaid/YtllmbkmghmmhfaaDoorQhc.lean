/- Contracts and laws, part 3 of 5: what each function of the program and of the reference computes, shown once. -/
import Derived.Test.YtllmbkmghmmhfaaDoorQhb
set_option maxRecDepth 100000
set_option maxHeartbeats 4000000
set_option linter.unusedVariables false
set_option linter.unusedSimpArgs false
namespace Go.Proofs.YtllmbkmghmmhfaaDoor.W
open Go Go.Eng Go.Byt
open Go.Fld Go.Ed
theorem cF (f g : Nat → Int) (a b : Fp) (hf : El f a) (hg : El g b) (w : World) : Rets Tryd.prog 54 [.agg (iv .u64 5 f).toArray, .agg (iv .u64 5 g).toArray] w (fun v w' => ∃ h, v = .agg (iv .u64 5 h).toArray ∧ El h (a * b) ∧ Keep [] w w') := by
  have hB : Keep [] w w := Keep.refl _ _
  obtain ⟨f0, f1, f2, f3, f4, hfv⟩ := hf
  obtain ⟨g0, g1, g2, g3, g4, hgv⟩ := hg
  refine a7 Tryd.func54 rfl (by decide) Tryd.ntmps54 rfl (fun fin _ hfin => aS (aR (a9 (bc (cs := [.int .u64 (f 0), .int .u64 (f 1), .int .u64 (f 2), .int .u64 (f 3), .int .u64 (f 4)]) rfl rfl) rfl ?_)))
  rintro _ w1 ⟨b1, rfl, eb1, hb1, k1, z1⟩
  replace hB := hB.trans k1
  clear eb1 z1
  refine a9 (bc (cs := [.int .u64 (g 0), .int .u64 (g 1), .int .u64 (g 2), .int .u64 (g 3), .int .u64 (g 4)]) rfl rfl) rfl ?_
  rintro _ w2 ⟨b2, rfl, eb2, hb2, k2, z2⟩
  obtain ⟨hB, hb1⟩ := bT k2 hB hb1
  clear eb2 z2
  refine a9 (ab ah) rfl ?_
  rintro _ w3 ⟨b3, rfl, eb3, hb3, k3, z3⟩
  have ge_b3 : w.heap.size ≤ b3 := by have := hB.size; omega
  obtain ⟨hB, hb1, hb2⟩ := cX k3 hB hb1 hb2
  clear eb3 z3
  refine aT (aS (dm mixed (by decide +kernel) (fun w4 k4 => ?_)))
  obtain ⟨hB, hb1, hb2, hb3⟩ := cy k4 hB hb1 hb2 hb3
  refine ac (aa aA aY rfl rfl (by decide)) rfl (ac (aZ ai rfl hb2 rfl) rfl (bk (e' := 19 * (g 1)) (lo := 0) (hi := 85568392920039405) (dZ rfl rfl) (am (co g1 (by decide)) rfl) (In.wk (co g1 (by decide)) rfl) rfl (fun z4 h1 r1 => ac (aa aA aY rfl rfl (by decide)) rfl (ac (aZ ai rfl hb2 rfl) rfl (bk (e' := 19 * (g 2)) (lo := 0) (hi := 85568392920039405) (dZ rfl rfl) (am (co g2 (by decide)) rfl) (In.wk (co g2 (by decide)) rfl) rfl (fun z5 h2 r2 => ac (aa aA aY rfl rfl (by decide)) rfl (ac (aZ ai rfl hb2 rfl) rfl (bk (e' := 19 * (g 3)) (lo := 0) (hi := 85568392920039405) (dZ rfl rfl) (am (co g3 (by decide)) rfl) (In.wk (co g3 (by decide)) rfl) rfl (fun z6 h3 r3 => ?_)))))))))
  refine ac (aa aA aY rfl rfl (by decide)) rfl (ac (aZ ai rfl hb2 rfl) rfl (bk (e' := 19 * (g 4)) (lo := 0) (hi := 85568392920039405) (dZ rfl rfl) (am (co g4 (by decide)) rfl) (In.wk (co g4 (by decide)) rfl) rfl (fun z7 h4 r4 => ac (fK rfl) rfl (ac (fK rfl) rfl (ac (fK rfl) rfl (ac (fK rfl) rfl (cB (aT ?_))))))))
  refine aW [(2, _), (3, _), (4, _), (5, _), (6, _), (7, _), (8, _)] ⟨rfl, rfl, rfl, rfl, rfl, rfl, rfl, trivial⟩ (aS ?_)
  have gs1 := hB.size
  have lt3 := hb3.lt
  refine bJ 122 [0, 1, 2, 3, 4, 6, 7, 8, 10, 11, 12, 14, 15, 16, 18, 19, 20, 22, 23, 24, 25, 26, 28, 29, 30, 31, 33, 34, 35, 37, 38, 39, 41, 42, 43, 45, 46, 47, 48, 49, 51, 52, 53, 54, 56, 57, 58, 59, 61, 62, 63, 65, 66, 67, 69, 70, 71, 72, 73, 75, 76, 77, 78, 80, 81, 82, 83, 85, 86, 87, 88, 90, 91, 92, 94, 95, 96, 97, 98, 100, 101, 102, 103, 105, 106, 107, 108, 110, 111, 112, 113, 115, 116, 117, 118, 5, 9, 13, 17, 21, 27, 32, 36, 40, 44, 50, 55, 60, 64, 68, 74, 79, 84, 89, 93, 99, 104, 109, 114, 119, 120] [5, 9, 13, 17, 21, 27, 32, 36, 40, 44, 50, 55, 60, 64, 68, 74, 79, 84, 89, 93, 99, 104, 109, 114, 119] [] [(121, 105, [.int .u64 0, .int .u64 0, .int .u64 0, .int .u64 0, .int .u64 0, .int .u64 0, .int .u64 0, .int .u64 0, .int .u64 0, .int .u64 0])] mixed [(2, _), (3, _), (8, _), (7, _), (6, _), (5, _), (4, _)] ⟨rfl, rfl, rfl, rfl, rfl, rfl, rfl, trivial⟩ (by decide +kernel) (by decide) (by decide) ?_ (fun x hx => by cases hx) rfl (fun w5 k5 => ?_)
  · simp only [List.forall_mem_cons]; exact ⟨⟨_, _, _, _, _, _, rfl, lU⟩, fun q hq => by cases hq⟩
  obtain ⟨hB, hb1, hb2, hb3⟩ := cy k5 hB hb1 hb2 hb3
  refine iZ [] rfl rfl trivial rfl (fun W' kk => cd (idx := []) (xs := []) (vs := []) (css := []) (out := [_, _]) jy cg rfl rfl trivial rfl rfl) (af 2 rfl rfl rfl rfl (fun W' kk => aa aA aY rfl rfl (by decide)) (af 29 rfl rfl rfl rfl (fun W' kk => aZ ai rfl (Bk.pK hb1 kk) rfl) (af 3 rfl rfl rfl rfl (fun W' kk => aa aA aY rfl rfl (by decide)) (af 31 rfl rfl rfl rfl (fun W' kk => aZ ai rfl (Bk.pK hb2 kk) rfl) (af 2 rfl rfl rfl rfl (fun W' kk => aa aA aY rfl rfl (by decide)) (af 34 rfl rfl rfl rfl (fun W' kk => aZ ai rfl (Bk.pK hb1 kk) rfl) (cK 8 rfl rfl rfl rfl rfl (af 2 rfl rfl rfl rfl (fun W' kk => aa aA aY rfl rfl (by decide)) ?_))))))))
  refine af 38 rfl rfl rfl rfl (fun W' kk => aZ ai rfl (Bk.pK hb1 kk) rfl) (cK 7 rfl rfl rfl rfl rfl (af 2 rfl rfl rfl rfl (fun W' kk => aa aA aY rfl rfl (by decide)) (af 42 rfl rfl rfl rfl (fun W' kk => aZ ai rfl (Bk.pK hb1 kk) rfl) (cK 6 rfl rfl rfl rfl rfl (af 2 rfl rfl rfl rfl (fun W' kk => aa aA aY rfl rfl (by decide)) (af 46 rfl rfl rfl rfl (fun W' kk => aZ ai rfl (Bk.pK hb1 kk) rfl) (cK 5 rfl rfl rfl rfl rfl (iZ [] rfl rfl trivial rfl (fun W' kk => cd (idx := []) (xs := []) (vs := []) (css := []) (out := [_, _]) jy cg rfl rfl trivial rfl rfl) ?_))))))))
  refine af 2 rfl rfl rfl rfl (fun W' kk => aa aA aY rfl rfl (by decide)) (af 51 rfl rfl rfl rfl (fun W' kk => aZ ai rfl (Bk.pK hb1 kk) rfl) (af 3 rfl rfl rfl rfl (fun W' kk => aa aA aY rfl rfl (by decide)) (af 53 rfl rfl rfl rfl (fun W' kk => aZ ai rfl (Bk.pK hb2 kk) rfl) (af 2 rfl rfl rfl rfl (fun W' kk => aa aA aY rfl rfl (by decide)) (af 56 rfl rfl rfl rfl (fun W' kk => aZ ai rfl (Bk.pK hb1 kk) rfl) (af 3 rfl rfl rfl rfl (fun W' kk => aa aA aY rfl rfl (by decide)) (af 58 rfl rfl rfl rfl (fun W' kk => aZ ai rfl (Bk.pK hb2 kk) rfl) (af 2 rfl rfl rfl rfl (fun W' kk => aa aA aY rfl rfl (by decide)) ?_))))))))
  refine af 61 rfl rfl rfl rfl (fun W' kk => aZ ai rfl (Bk.pK hb1 kk) rfl) (cK 8 rfl rfl rfl rfl rfl (af 2 rfl rfl rfl rfl (fun W' kk => aa aA aY rfl rfl (by decide)) (af 65 rfl rfl rfl rfl (fun W' kk => aZ ai rfl (Bk.pK hb1 kk) rfl) (cK 7 rfl rfl rfl rfl rfl (af 2 rfl rfl rfl rfl (fun W' kk => aa aA aY rfl rfl (by decide)) (af 69 rfl rfl rfl rfl (fun W' kk => aZ ai rfl (Bk.pK hb1 kk) rfl) (cK 6 rfl rfl rfl rfl rfl (iZ [] rfl rfl trivial rfl (fun W' kk => cd (idx := []) (xs := []) (vs := []) (css := []) (out := [_, _]) jy cg rfl rfl trivial rfl rfl) ?_))))))))
  refine af 2 rfl rfl rfl rfl (fun W' kk => aa aA aY rfl rfl (by decide)) (af 74 rfl rfl rfl rfl (fun W' kk => aZ ai rfl (Bk.pK hb1 kk) rfl) (af 3 rfl rfl rfl rfl (fun W' kk => aa aA aY rfl rfl (by decide)) (af 76 rfl rfl rfl rfl (fun W' kk => aZ ai rfl (Bk.pK hb2 kk) rfl) (af 2 rfl rfl rfl rfl (fun W' kk => aa aA aY rfl rfl (by decide)) (af 79 rfl rfl rfl rfl (fun W' kk => aZ ai rfl (Bk.pK hb1 kk) rfl) (af 3 rfl rfl rfl rfl (fun W' kk => aa aA aY rfl rfl (by decide)) (af 81 rfl rfl rfl rfl (fun W' kk => aZ ai rfl (Bk.pK hb2 kk) rfl) (af 2 rfl rfl rfl rfl (fun W' kk => aa aA aY rfl rfl (by decide)) ?_))))))))
  refine af 84 rfl rfl rfl rfl (fun W' kk => aZ ai rfl (Bk.pK hb1 kk) rfl) (af 3 rfl rfl rfl rfl (fun W' kk => aa aA aY rfl rfl (by decide)) (af 86 rfl rfl rfl rfl (fun W' kk => aZ ai rfl (Bk.pK hb2 kk) rfl) (af 2 rfl rfl rfl rfl (fun W' kk => aa aA aY rfl rfl (by decide)) (af 89 rfl rfl rfl rfl (fun W' kk => aZ ai rfl (Bk.pK hb1 kk) rfl) (cK 8 rfl rfl rfl rfl rfl (af 2 rfl rfl rfl rfl (fun W' kk => aa aA aY rfl rfl (by decide)) (af 93 rfl rfl rfl rfl (fun W' kk => aZ ai rfl (Bk.pK hb1 kk) rfl) (cK 7 rfl rfl rfl rfl rfl ?_))))))))
  refine iZ [] rfl rfl trivial rfl (fun W' kk => cd (idx := []) (xs := []) (vs := []) (css := []) (out := [_, _]) jy cg rfl rfl trivial rfl rfl) (af 2 rfl rfl rfl rfl (fun W' kk => aa aA aY rfl rfl (by decide)) (af 98 rfl rfl rfl rfl (fun W' kk => aZ ai rfl (Bk.pK hb1 kk) rfl) (af 3 rfl rfl rfl rfl (fun W' kk => aa aA aY rfl rfl (by decide)) (af 100 rfl rfl rfl rfl (fun W' kk => aZ ai rfl (Bk.pK hb2 kk) rfl) (af 2 rfl rfl rfl rfl (fun W' kk => aa aA aY rfl rfl (by decide)) (af 103 rfl rfl rfl rfl (fun W' kk => aZ ai rfl (Bk.pK hb1 kk) rfl) (af 3 rfl rfl rfl rfl (fun W' kk => aa aA aY rfl rfl (by decide)) (af 105 rfl rfl rfl rfl (fun W' kk => aZ ai rfl (Bk.pK hb2 kk) rfl) ?_))))))))
  refine af 2 rfl rfl rfl rfl (fun W' kk => aa aA aY rfl rfl (by decide)) (af 108 rfl rfl rfl rfl (fun W' kk => aZ ai rfl (Bk.pK hb1 kk) rfl) (af 3 rfl rfl rfl rfl (fun W' kk => aa aA aY rfl rfl (by decide)) (af 110 rfl rfl rfl rfl (fun W' kk => aZ ai rfl (Bk.pK hb2 kk) rfl) (af 2 rfl rfl rfl rfl (fun W' kk => aa aA aY rfl rfl (by decide)) (af 113 rfl rfl rfl rfl (fun W' kk => aZ ai rfl (Bk.pK hb1 kk) rfl) (af 3 rfl rfl rfl rfl (fun W' kk => aa aA aY rfl rfl (by decide)) (af 115 rfl rfl rfl rfl (fun W' kk => aZ ai rfl (Bk.pK hb2 kk) rfl) (af 2 rfl rfl rfl rfl (fun W' kk => aa aA aY rfl rfl (by decide)) ?_))))))))
  refine af 118 rfl rfl rfl rfl (fun W' kk => aZ ai rfl (Bk.pK hb1 kk) rfl) (cK 8 rfl rfl rfl rfl rfl (iZ [] rfl rfl trivial rfl (fun W' kk => cd (idx := []) (xs := []) (vs := []) (css := []) (out := [_, _]) jy cg rfl rfl trivial rfl rfl) (af 2 rfl rfl rfl rfl (fun W' kk => aa aA aY rfl rfl (by decide)) (af 123 rfl rfl rfl rfl (fun W' kk => aZ ai rfl (Bk.pK hb1 kk) rfl) (af 3 rfl rfl rfl rfl (fun W' kk => aa aA aY rfl rfl (by decide)) (af 125 rfl rfl rfl rfl (fun W' kk => aZ ai rfl (Bk.pK hb2 kk) rfl) (af 2 rfl rfl rfl rfl (fun W' kk => aa aA aY rfl rfl (by decide)) (af 128 rfl rfl rfl rfl (fun W' kk => aZ ai rfl (Bk.pK hb1 kk) rfl) ?_))))))))
  refine af 3 rfl rfl rfl rfl (fun W' kk => aa aA aY rfl rfl (by decide)) (af 130 rfl rfl rfl rfl (fun W' kk => aZ ai rfl (Bk.pK hb2 kk) rfl) (af 2 rfl rfl rfl rfl (fun W' kk => aa aA aY rfl rfl (by decide)) (af 133 rfl rfl rfl rfl (fun W' kk => aZ ai rfl (Bk.pK hb1 kk) rfl) (af 3 rfl rfl rfl rfl (fun W' kk => aa aA aY rfl rfl (by decide)) (af 135 rfl rfl rfl rfl (fun W' kk => aZ ai rfl (Bk.pK hb2 kk) rfl) (af 2 rfl rfl rfl rfl (fun W' kk => aa aA aY rfl rfl (by decide)) (af 138 rfl rfl rfl rfl (fun W' kk => aZ ai rfl (Bk.pK hb1 kk) rfl) (af 3 rfl rfl rfl rfl (fun W' kk => aa aA aY rfl rfl (by decide)) ?_))))))))
  refine af 140 rfl rfl rfl rfl (fun W' kk => aZ ai rfl (Bk.pK hb2 kk) rfl) (af 2 rfl rfl rfl rfl (fun W' kk => aa aA aY rfl rfl (by decide)) (af 143 rfl rfl rfl rfl (fun W' kk => aZ ai rfl (Bk.pK hb1 kk) rfl) (af 3 rfl rfl rfl rfl (fun W' kk => aa aA aY rfl rfl (by decide)) (af 145 rfl rfl rfl rfl (fun W' kk => aZ ai rfl (Bk.pK hb2 kk) rfl) (bY [(28, _), (30, _), (32, _)] rfl rfl ⟨rfl, rfl, rfl, trivial⟩ rfl (fun w7 k7 => ?_))))))
  obtain ⟨hB, hb3⟩ := bT k7 hB hb3
  refine (aV (vs := [_, _, _]) rfl (bX 0 0 (f 0) (g 0) 0 20282409603651661416747996545025 20282409603651661416747996545025 1099511627775 (by decide) (by decide) (In.wk f0 rfl) (In.wk g0 rfl) (by decide) (bZ f0 g0 (by decide) (by decide)).2 (by decide) (by decide) (by decide) _)).mono ?_
  rintro _ w6 ⟨hi1, lo1, rfl, ra1, rb1, eq1, le1, k6⟩
  refine ⟨k6, nox, ?_⟩
  obtain ⟨hB, hb3⟩ := bT k6 hB hb3
  refine bY [(33, _), (35, _), (36, _)] rfl rfl ⟨rfl, rfl, rfl, trivial⟩ rfl (fun w9 k9 => ?_)
  obtain ⟨hB, hb3⟩ := bT k9 hB hb3
  refine (aV (vs := [_, _, _]) rfl (bX hi1 lo1 (f 1) z7 20282409603651661416747996545025 385365782469381566918211934355475 405648192073033228334959930900500 21990232555519 (In.wk ra1 rfl) rb1 (In.wk f1 rfl) (In.wk r4 rfl) le1 (bZ f1 r4 (by decide) (by decide)).2 (by decide) (by decide) (by decide) _)).mono ?_
  rintro _ w8 ⟨hi2, lo2, rfl, ra2, rb2, eq2, le2, k8⟩
  refine ⟨k8, nox, ?_⟩
  obtain ⟨hB, hb3⟩ := bT k8 hB hb3
  refine bY [(37, _), (39, _), (40, _)] rfl rfl ⟨rfl, rfl, rfl, trivial⟩ rfl (fun w11 k11 => ?_)
  obtain ⟨hB, hb3⟩ := bT k11 hB hb3
  refine (aV (vs := [_, _, _]) rfl (bX hi2 lo2 (f 2) z6 405648192073033228334959930900500 385365782469381566918211934355475 791013974542414795253171865255975 42880953483263 (In.wk ra2 rfl) rb2 (In.wk f2 rfl) (In.wk r3 rfl) le2 (bZ f2 r3 (by decide) (by decide)).2 (by decide) (by decide) (by decide) _)).mono ?_
  rintro _ w10 ⟨hi3, lo3, rfl, ra3, rb3, eq3, le3, k10⟩
  refine ⟨k10, nox, ?_⟩
  obtain ⟨hB, hb3⟩ := bT k10 hB hb3
  refine bY [(41, _), (43, _), (44, _)] rfl rfl ⟨rfl, rfl, rfl, trivial⟩ rfl (fun w13 k13 => ?_)
  obtain ⟨hB, hb3⟩ := bT k13 hB hb3
  refine (aV (vs := [_, _, _]) rfl (bX hi3 lo3 (f 3) z5 791013974542414795253171865255975 385365782469381566918211934355475 1176379757011796362171383799611450 63771674411007 (In.wk ra3 rfl) rb3 (In.wk f3 rfl) (In.wk r2 rfl) le3 (bZ f3 r2 (by decide) (by decide)).2 (by decide) (by decide) (by decide) _)).mono ?_
  rintro _ w12 ⟨hi4, lo4, rfl, ra4, rb4, eq4, le4, k12⟩
  refine ⟨k12, nox, ?_⟩
  obtain ⟨hB, hb3⟩ := bT k12 hB hb3
  refine bY [(45, _), (47, _), (48, _)] rfl rfl ⟨rfl, rfl, rfl, trivial⟩ rfl (fun w15 k15 => ?_)
  obtain ⟨hB, hb3⟩ := bT k15 hB hb3
  refine (aV (vs := [_, _, _]) rfl (bX hi4 lo4 (f 4) z4 1176379757011796362171383799611450 385365782469381566918211934355475 1561745539481177929089595733966925 84662395338751 (In.wk ra4 rfl) rb4 (In.wk f4 rfl) (In.wk r1 rfl) le4 (bZ f4 r1 (by decide) (by decide)).2 (by decide) (by decide) (by decide) _)).mono ?_
  rintro _ w14 ⟨hi5, lo5, rfl, ra5, rb5, ms, le5, k14⟩
  refine ⟨k14, nox, ?_⟩
  obtain ⟨hB, hb3⟩ := bT k14 hB hb3
  refine bY [(50, _), (52, _), (54, _)] rfl rfl ⟨rfl, rfl, rfl, trivial⟩ rfl (fun w17 k17 => ?_)
  obtain ⟨hB, hb3⟩ := bT k17 hB hb3
  refine (aV (vs := [_, _, _]) rfl (bX 0 0 (f 0) (g 1) 0 20282409603651661416747996545025 20282409603651661416747996545025 1099511627775 (by decide) (by decide) (In.wk f0 rfl) (In.wk g1 rfl) (by decide) (bZ f0 g1 (by decide) (by decide)).2 (by decide) (by decide) (by decide) _)).mono ?_
  rintro _ w16 ⟨hi6, lo6, rfl, ra6, rb6, eq6, le6, k16⟩
  refine ⟨k16, nox, ?_⟩
  obtain ⟨hB, hb3⟩ := bT k16 hB hb3
  refine bY [(55, _), (57, _), (59, _)] rfl rfl ⟨rfl, rfl, rfl, trivial⟩ rfl (fun w19 k19 => ?_)
  obtain ⟨hB, hb3⟩ := bT k19 hB hb3
  refine (aV (vs := [_, _, _]) rfl (bX hi6 lo6 (f 1) (g 0) 20282409603651661416747996545025 20282409603651661416747996545025 40564819207303322833495993090050 2199023255551 (In.wk ra6 rfl) rb6 (In.wk f1 rfl) (In.wk g0 rfl) le6 (bZ f1 g0 (by decide) (by decide)).2 (by decide) (by decide) (by decide) _)).mono ?_
  rintro _ w18 ⟨hi7, lo7, rfl, ra7, rb7, eq7, le7, k18⟩
  refine ⟨k18, nox, ?_⟩
  obtain ⟨hB, hb3⟩ := bT k18 hB hb3
  refine bY [(60, _), (62, _), (63, _)] rfl rfl ⟨rfl, rfl, rfl, trivial⟩ rfl (fun w21 k21 => ?_)
  obtain ⟨hB, hb3⟩ := bT k21 hB hb3
  refine (aV (vs := [_, _, _]) rfl (bX hi7 lo7 (f 2) z7 40564819207303322833495993090050 385365782469381566918211934355475 425930601676684889751707927445525 23089744183295 (In.wk ra7 rfl) rb7 (In.wk f2 rfl) (In.wk r4 rfl) le7 (bZ f2 r4 (by decide) (by decide)).2 (by decide) (by decide) (by decide) _)).mono ?_
  rintro _ w20 ⟨hi8, lo8, rfl, ra8, rb8, eq8, le8, k20⟩
  refine ⟨k20, nox, ?_⟩
  obtain ⟨hB, hb3⟩ := bT k20 hB hb3
  refine bY [(64, _), (66, _), (67, _)] rfl rfl ⟨rfl, rfl, rfl, trivial⟩ rfl (fun w23 k23 => ?_)
  obtain ⟨hB, hb3⟩ := bT k23 hB hb3
  refine (aV (vs := [_, _, _]) rfl (bX hi8 lo8 (f 3) z6 425930601676684889751707927445525 385365782469381566918211934355475 811296384146066456669919861801000 43980465111039 (In.wk ra8 rfl) rb8 (In.wk f3 rfl) (In.wk r3 rfl) le8 (bZ f3 r3 (by decide) (by decide)).2 (by decide) (by decide) (by decide) _)).mono ?_
  rintro _ w22 ⟨hi9, lo9, rfl, ra9, rb9, eq9, le9, k22⟩
  refine ⟨k22, nox, ?_⟩
  obtain ⟨hB, hb3⟩ := bT k22 hB hb3
  refine bY [(68, _), (70, _), (71, _)] rfl rfl ⟨rfl, rfl, rfl, trivial⟩ rfl (fun w25 k25 => ?_)
  obtain ⟨hB, hb3⟩ := bT k25 hB hb3
  refine (aV (vs := [_, _, _]) rfl (bX hi9 lo9 (f 4) z5 811296384146066456669919861801000 385365782469381566918211934355475 1196662166615448023588131796156475 64871186038783 (In.wk ra9 rfl) rb9 (In.wk f4 rfl) (In.wk r2 rfl) le9 (bZ f4 r2 (by decide) (by decide)).2 (by decide) (by decide) (by decide) _)).mono ?_
  rintro _ w24 ⟨hi10, lo10, rfl, ra10, rb10, eq10, le10, k24⟩
  refine ⟨k24, nox, ?_⟩
  obtain ⟨hB, hb3⟩ := bT k24 hB hb3
  refine bY [(73, _), (75, _), (77, _)] rfl rfl ⟨rfl, rfl, rfl, trivial⟩ rfl (fun w27 k27 => ?_)
  obtain ⟨hB, hb3⟩ := bT k27 hB hb3
  refine (aV (vs := [_, _, _]) rfl (bX 0 0 (f 0) (g 2) 0 20282409603651661416747996545025 20282409603651661416747996545025 1099511627775 (by decide) (by decide) (In.wk f0 rfl) (In.wk g2 rfl) (by decide) (bZ f0 g2 (by decide) (by decide)).2 (by decide) (by decide) (by decide) _)).mono ?_
  rintro _ w26 ⟨hi11, lo11, rfl, ra11, rb11, eq11, le11, k26⟩
  refine ⟨k26, nox, ?_⟩
  obtain ⟨hB, hb3⟩ := bT k26 hB hb3
  refine bY [(78, _), (80, _), (82, _)] rfl rfl ⟨rfl, rfl, rfl, trivial⟩ rfl (fun w29 k29 => ?_)
  obtain ⟨hB, hb3⟩ := bT k29 hB hb3
  refine (aV (vs := [_, _, _]) rfl (bX hi11 lo11 (f 1) (g 1) 20282409603651661416747996545025 20282409603651661416747996545025 40564819207303322833495993090050 2199023255551 (In.wk ra11 rfl) rb11 (In.wk f1 rfl) (In.wk g1 rfl) le11 (bZ f1 g1 (by decide) (by decide)).2 (by decide) (by decide) (by decide) _)).mono ?_
  rintro _ w28 ⟨hi12, lo12, rfl, ra12, rb12, eq12, le12, k28⟩
  refine ⟨k28, nox, ?_⟩
  obtain ⟨hB, hb3⟩ := bT k28 hB hb3
  refine bY [(83, _), (85, _), (87, _)] rfl rfl ⟨rfl, rfl, rfl, trivial⟩ rfl (fun w31 k31 => ?_)
  obtain ⟨hB, hb3⟩ := bT k31 hB hb3
  refine (aV (vs := [_, _, _]) rfl (bX hi12 lo12 (f 2) (g 0) 40564819207303322833495993090050 20282409603651661416747996545025 60847228810954984250243989635075 3298534883327 (In.wk ra12 rfl) rb12 (In.wk f2 rfl) (In.wk g0 rfl) le12 (bZ f2 g0 (by decide) (by decide)).2 (by decide) (by decide) (by decide) _)).mono ?_
  rintro _ w30 ⟨hi13, lo13, rfl, ra13, rb13, eq13, le13, k30⟩
  refine ⟨k30, nox, ?_⟩
  obtain ⟨hB, hb3⟩ := bT k30 hB hb3
  refine bY [(88, _), (90, _), (91, _)] rfl rfl ⟨rfl, rfl, rfl, trivial⟩ rfl (fun w33 k33 => ?_)
  obtain ⟨hB, hb3⟩ := bT k33 hB hb3
  refine (aV (vs := [_, _, _]) rfl (bX hi13 lo13 (f 3) z7 60847228810954984250243989635075 385365782469381566918211934355475 446213011280336551168455923990550 24189255811071 (In.wk ra13 rfl) rb13 (In.wk f3 rfl) (In.wk r4 rfl) le13 (bZ f3 r4 (by decide) (by decide)).2 (by decide) (by decide) (by decide) _)).mono ?_
  rintro _ w32 ⟨hi14, lo14, rfl, ra14, rb14, eq14, le14, k32⟩
  refine ⟨k32, nox, ?_⟩
  obtain ⟨hB, hb3⟩ := bT k32 hB hb3
  refine bY [(92, _), (94, _), (95, _)] rfl rfl ⟨rfl, rfl, rfl, trivial⟩ rfl (fun w35 k35 => ?_)
  obtain ⟨hB, hb3⟩ := bT k35 hB hb3
  refine (aV (vs := [_, _, _]) rfl (bX hi14 lo14 (f 4) z6 446213011280336551168455923990550 385365782469381566918211934355475 831578793749718118086667858346025 45079976738815 (In.wk ra14 rfl) rb14 (In.wk f4 rfl) (In.wk r3 rfl) le14 (bZ f4 r3 (by decide) (by decide)).2 (by decide) (by decide) (by decide) _)).mono ?_
  rintro _ w34 ⟨hi15, lo15, rfl, ra15, rb15, eq15, le15, k34⟩
  refine ⟨k34, nox, ?_⟩
  obtain ⟨hB, hb3⟩ := bT k34 hB hb3
  refine bY [(97, _), (99, _), (101, _)] rfl rfl ⟨rfl, rfl, rfl, trivial⟩ rfl (fun w37 k37 => ?_)
  obtain ⟨hB, hb3⟩ := bT k37 hB hb3
  refine (aV (vs := [_, _, _]) rfl (bX 0 0 (f 0) (g 3) 0 20282409603651661416747996545025 20282409603651661416747996545025 1099511627775 (by decide) (by decide) (In.wk f0 rfl) (In.wk g3 rfl) (by decide) (bZ f0 g3 (by decide) (by decide)).2 (by decide) (by decide) (by decide) _)).mono ?_
  rintro _ w36 ⟨hi16, lo16, rfl, ra16, rb16, eq16, le16, k36⟩
  refine ⟨k36, nox, ?_⟩
  obtain ⟨hB, hb3⟩ := bT k36 hB hb3
  refine bY [(102, _), (104, _), (106, _)] rfl rfl ⟨rfl, rfl, rfl, trivial⟩ rfl (fun w39 k39 => ?_)
  obtain ⟨hB, hb3⟩ := bT k39 hB hb3
  refine (aV (vs := [_, _, _]) rfl (bX hi16 lo16 (f 1) (g 2) 20282409603651661416747996545025 20282409603651661416747996545025 40564819207303322833495993090050 2199023255551 (In.wk ra16 rfl) rb16 (In.wk f1 rfl) (In.wk g2 rfl) le16 (bZ f1 g2 (by decide) (by decide)).2 (by decide) (by decide) (by decide) _)).mono ?_
  rintro _ w38 ⟨hi17, lo17, rfl, ra17, rb17, eq17, le17, k38⟩
  refine ⟨k38, nox, ?_⟩
  obtain ⟨hB, hb3⟩ := bT k38 hB hb3
  refine bY [(107, _), (109, _), (111, _)] rfl rfl ⟨rfl, rfl, rfl, trivial⟩ rfl (fun w41 k41 => ?_)
  obtain ⟨hB, hb3⟩ := bT k41 hB hb3
  refine (aV (vs := [_, _, _]) rfl (bX hi17 lo17 (f 2) (g 1) 40564819207303322833495993090050 20282409603651661416747996545025 60847228810954984250243989635075 3298534883327 (In.wk ra17 rfl) rb17 (In.wk f2 rfl) (In.wk g1 rfl) le17 (bZ f2 g1 (by decide) (by decide)).2 (by decide) (by decide) (by decide) _)).mono ?_
  rintro _ w40 ⟨hi18, lo18, rfl, ra18, rb18, eq18, le18, k40⟩
  refine ⟨k40, nox, ?_⟩
  obtain ⟨hB, hb3⟩ := bT k40 hB hb3
  refine bY [(112, _), (114, _), (116, _)] rfl rfl ⟨rfl, rfl, rfl, trivial⟩ rfl (fun w43 k43 => ?_)
  obtain ⟨hB, hb3⟩ := bT k43 hB hb3
  refine (aV (vs := [_, _, _]) rfl (bX hi18 lo18 (f 3) (g 0) 60847228810954984250243989635075 20282409603651661416747996545025 81129638414606645666991986180100 4398046511103 (In.wk ra18 rfl) rb18 (In.wk f3 rfl) (In.wk g0 rfl) le18 (bZ f3 g0 (by decide) (by decide)).2 (by decide) (by decide) (by decide) _)).mono ?_
  rintro _ w42 ⟨hi19, lo19, rfl, ra19, rb19, eq19, le19, k42⟩
  refine ⟨k42, nox, ?_⟩
  obtain ⟨hB, hb3⟩ := bT k42 hB hb3
  refine bY [(117, _), (119, _), (120, _)] rfl rfl ⟨rfl, rfl, rfl, trivial⟩ rfl (fun w45 k45 => ?_)
  obtain ⟨hB, hb3⟩ := bT k45 hB hb3
  refine (aV (vs := [_, _, _]) rfl (bX hi19 lo19 (f 4) z7 81129638414606645666991986180100 385365782469381566918211934355475 466495420883988212585203920535575 25288767438847 (In.wk ra19 rfl) rb19 (In.wk f4 rfl) (In.wk r4 rfl) le19 (bZ f4 r4 (by decide) (by decide)).2 (by decide) (by decide) (by decide) _)).mono ?_
  rintro _ w44 ⟨hi20, lo20, rfl, ra20, rb20, eq20, le20, k44⟩
  refine ⟨k44, nox, ?_⟩
  obtain ⟨hB, hb3⟩ := bT k44 hB hb3
  refine bY [(122, _), (124, _), (126, _)] rfl rfl ⟨rfl, rfl, rfl, trivial⟩ rfl (fun w47 k47 => ?_)
  obtain ⟨hB, hb3⟩ := bT k47 hB hb3
  refine (aV (vs := [_, _, _]) rfl (bX 0 0 (f 0) (g 4) 0 20282409603651661416747996545025 20282409603651661416747996545025 1099511627775 (by decide) (by decide) (In.wk f0 rfl) (In.wk g4 rfl) (by decide) (bZ f0 g4 (by decide) (by decide)).2 (by decide) (by decide) (by decide) _)).mono ?_
  rintro _ w46 ⟨hi21, lo21, rfl, ra21, rb21, eq21, le21, k46⟩
  refine ⟨k46, nox, ?_⟩
  obtain ⟨hB, hb3⟩ := bT k46 hB hb3
  refine bY [(127, _), (129, _), (131, _)] rfl rfl ⟨rfl, rfl, rfl, trivial⟩ rfl (fun w49 k49 => ?_)
  obtain ⟨hB, hb3⟩ := bT k49 hB hb3
  refine (aV (vs := [_, _, _]) rfl (bX hi21 lo21 (f 1) (g 3) 20282409603651661416747996545025 20282409603651661416747996545025 40564819207303322833495993090050 2199023255551 (In.wk ra21 rfl) rb21 (In.wk f1 rfl) (In.wk g3 rfl) le21 (bZ f1 g3 (by decide) (by decide)).2 (by decide) (by decide) (by decide) _)).mono ?_
  rintro _ w48 ⟨hi22, lo22, rfl, ra22, rb22, eq22, le22, k48⟩
  refine ⟨k48, nox, ?_⟩
  obtain ⟨hB, hb3⟩ := bT k48 hB hb3
  refine bY [(132, _), (134, _), (136, _)] rfl rfl ⟨rfl, rfl, rfl, trivial⟩ rfl (fun w51 k51 => ?_)
  obtain ⟨hB, hb3⟩ := bT k51 hB hb3
  refine (aV (vs := [_, _, _]) rfl (bX hi22 lo22 (f 2) (g 2) 40564819207303322833495993090050 20282409603651661416747996545025 60847228810954984250243989635075 3298534883327 (In.wk ra22 rfl) rb22 (In.wk f2 rfl) (In.wk g2 rfl) le22 (bZ f2 g2 (by decide) (by decide)).2 (by decide) (by decide) (by decide) _)).mono ?_
  rintro _ w50 ⟨hi23, lo23, rfl, ra23, rb23, eq23, le23, k50⟩
  refine ⟨k50, nox, ?_⟩
  obtain ⟨hB, hb3⟩ := bT k50 hB hb3
  refine bY [(137, _), (139, _), (141, _)] rfl rfl ⟨rfl, rfl, rfl, trivial⟩ rfl (fun w53 k53 => ?_)
  obtain ⟨hB, hb3⟩ := bT k53 hB hb3
  refine (aV (vs := [_, _, _]) rfl (bX hi23 lo23 (f 3) (g 1) 60847228810954984250243989635075 20282409603651661416747996545025 81129638414606645666991986180100 4398046511103 (In.wk ra23 rfl) rb23 (In.wk f3 rfl) (In.wk g1 rfl) le23 (bZ f3 g1 (by decide) (by decide)).2 (by decide) (by decide) (by decide) _)).mono ?_
  rintro _ w52 ⟨hi24, lo24, rfl, ra24, rb24, eq24, le24, k52⟩
  refine ⟨k52, nox, ?_⟩
  obtain ⟨hB, hb3⟩ := bT k52 hB hb3
  refine bY [(142, _), (144, _), (146, _)] rfl rfl ⟨rfl, rfl, rfl, trivial⟩ rfl (fun w55 k55 => ?_)
  obtain ⟨hB, hb3⟩ := bT k55 hB hb3
  refine (aV (vs := [_, _, _]) rfl (bX hi24 lo24 (f 4) (g 0) 81129638414606645666991986180100 20282409603651661416747996545025 101412048018258307083739982725125 5497558138879 (In.wk ra24 rfl) rb24 (In.wk f4 rfl) (In.wk g0 rfl) le24 (bZ f4 g0 (by decide) (by decide)).2 (by decide) (by decide) (by decide) _)).mono ?_
  rintro _ w54 ⟨hi25, lo25, rfl, ra25, rb25, eq25, le25, k54⟩
  refine ⟨k54, nox, ?_⟩
  obtain ⟨hB, hb3⟩ := bT k54 hB hb3
  refine iZ [(49, _), (72, _), (96, _), (121, _), (147, _)] rfl rfl ⟨rfl, rfl, rfl, rfl, rfl, trivial⟩ rfl (fun W' kk => cx (idx := [0, 1, 2, 3, 4]) (xs := [.tmp 49, .tmp 72, .tmp 96, .tmp 121, .tmp 147]) (vs := [_, _, _, _, _]) (css := [[.int .u64 hi5, .int .u64 lo5], [.int .u64 hi10, .int .u64 lo10], [.int .u64 hi15, .int .u64 lo15], [.int .u64 hi20, .int .u64 lo20], [.int .u64 hi25, .int .u64 lo25]]) (out := [.int .u64 hi5, .int .u64 lo5, .int .u64 hi10, .int .u64 lo10, .int .u64 hi15, .int .u64 lo15, .int .u64 hi20, .int .u64 lo20, .int .u64 hi25, .int .u64 lo25]) aQ cg lU (cW 5 2) rfl rfl ⟨rfl, rfl, rfl, rfl, rfl, trivial⟩ rfl rfl) (cC (fun w56 k56 => ?_))
  obtain ⟨hB, hb3⟩ := bT k56 hB hb3
  intro b4 eb4 lb1 hb4 ds1 sp1
  have ge_b4 : w.heap.size ≤ b4 := Nat.le_trans gs1 eb4
  have ne_b3_b4 : b3 ≠ b4 := Nat.ne_of_lt (Nat.lt_of_lt_of_le lt3 eb4)
  refine bK (a6 (ak lU rfl rfl rfl (by simp only [List.forall_mem_cons]; refine ⟨rfl, rfl, rfl, rfl, rfl, rfl, rfl, rfl, rfl, rfl, fun v hv => by cases hv⟩) hb4 rfl) ?_)
  rintro _ w57 ⟨hb5, k57, z8⟩
  replace hb3 := hb3.keep k57 (nm ne_b3_b4)
  replace hB := hB.new k57 (nw ge_b4)
  clear z8
  replace hb5 : Bk w57 b4 _ [.int .u64 hi5, .int .u64 lo5, .int .u64 hi10, .int .u64 lo10, .int .u64 hi15, .int .u64 lo15, .int .u64 hi20, .int .u64 lo20, .int .u64 hi25, .int .u64 lo25] := hb5
  refine aT (aW [(4, _), (9, _)] ⟨rfl, rfl, trivial⟩ (aS (aR (a9 (ab ah) rfl ?_))))
  rintro _ w58 ⟨b5, rfl, eb5, hb6, k58, z9⟩
  have ge_b5 : w.heap.size ≤ b5 := by have := hB.size; omega
  have ne_b3_b5 : b3 ≠ b5 := by have := hb3.lt; omega
  obtain ⟨hB, hb3, hb5⟩ := cX k58 hB hb3 hb5
  clear eb5 z9
  refine aT (aS (aR (oga rfl rfl (aT (aS (aS (aR (aU (aX (cs' := [_, _, _, _, _, _, _, _, _, _]) ag105 lU rfl hb5 rfl rfl) rfl ?_))))))))
  refine ogm rfl rfl (aT (a5 (dQ 5 (aS (aR (aU (bW rfl rfl) rfl (aT (aS ?_))))))))
  refine bF rfl (by decide) (a8 (aS (a5 (aS (aR (ogm rfl rfl (aU (iC (cs' := [_, _]) aQ cg iT rfl rfl (by decide) rfl) rfl (a9 (ab cg) rfl ?_))))))))
  rintro _ w59 ⟨b6, rfl, eb6, hb7, k59, z10⟩
  have ge_b6 : w.heap.size ≤ b6 := by have := hB.size; omega
  have ne_b3_b6 : b3 ≠ b6 := by have := hb3.lt; omega
  have ne_b5_b6 : b5 ≠ b6 := by have := hb6.lt; omega
  obtain ⟨hB, hb3, hb6⟩ := cX k59 hB hb3 hb6
  clear eb6 z10
  refine oga rfl rfl (a6 (ak cg rfl rfl rfl (by simp only [List.forall_mem_cons]; refine ⟨rfl, rfl, fun v hv => by cases hv⟩) hb7 rfl) ?_)
  rintro _ w60 ⟨hb8, k60, z11⟩
  replace hb3 := hb3.keep k60 (nm ne_b3_b6)
  replace hb6 := hb6.keep k60 (nm ne_b5_b6)
  replace hB := hB.new k60 (nw ge_b6)
  clear z11
  replace hb8 : Bk w60 b6 _ [.int .u64 hi5, .int .u64 lo5] := hb8
  refine aT (aS (aR (aU (cT aI rfl aY (by decide) rfl) rfl (aU (aZ ai rfl hb8 rfl) rfl (ogm rfl rfl (aU (d5 (vs := [_, _, _]) rfl (ck _ _ _ (In.wk rb5 rfl) (In.wk (dG 0) rfl) (In.wk (dG 0) rfl))) rfl (ogm rfl rfl (ag (e' := ((lo5 + 0 + 0) % 18446744073709551616)) (lo := 0) (hi := 18446744073709551615) (ar (vs := [_, _]) rfl rfl) (rfl) (In.wk (au _ (by decide)) rfl) rfl (fun z12 h5 r5 => ?_)))))))))
  refine ag (e' := ((lo5 + 0 + 0) / 18446744073709551616)) (lo := 0) (hi := 0) (ar (vs := [_, _]) rfl rfl) (rfl) (In.wk (bB (al (al rb5 (dG 0)) (dG 0)) (by decide)) rfl) rfl (fun z13 h6 r6 => oga rfl rfl (oga rfl rfl (aT (aW [(4, _), (10, _), (149, _), (150, _), (13, _), (12, _), (14, _), (15, _)] ⟨rfl, rfl, rfl, rfl, rfl, rfl, rfl, rfl, trivial⟩ (aS (aR (ogm rfl rfl (ogm rfl rfl ?_))))))))
  refine ag (e' := z12 % 2251799813685248) (lo := 0) (hi := 2251799813685247) (cY rfl rfl) (bd 51 r5 rfl rfl rfl rfl rfl rfl) (In.wk (au _ (by decide)) rfl) rfl (fun z14 h7 r7 => aU (aa aA aY rfl rfl (by decide)) rfl (a6 (cD aY rfl rfl rfl hb6 rfl) ?_))
  rintro _ w61 ⟨hb9, k61, z15⟩
  replace hb3 := hb3.keep k61 (nm ne_b3_b5)
  replace hb8 := hb8.keep k61 (nm (Ne.symm ne_b5_b6))
  replace hB := hB.new k61 (nw ge_b5)
  clear z15
  replace hb9 : Bk w61 b5 _ [.int .u64 z14, .int .u64 0, .int .u64 0, .int .u64 0, .int .u64 0] := hb9
  refine aT (aR (aU (cT aI rfl aY (by decide) rfl) rfl (aU (aZ ai rfl hb8 rfl) rfl (ogm rfl rfl (ag (e' := hi5 + z13) (lo := 0) (hi := 84662395338751) (an rfl rfl) (am (al ra5 r6) rfl) (In.wk (al ra5 r6) rfl) rfl (fun z16 h8 r8 => ag (e' := z16 * 8192) (lo := 0) (hi := 693554342615048192) (dB (m := 8192) rfl rfl (by decide) rfl) (am (cn r8 (by decide)) rfl) (In.wk (cn r8 (by decide)) rfl) rfl (fun z17 h9 r9 => ogm rfl rfl (ag (e' := z12 / 2251799813685248) (lo := 0) (hi := 8191) (bl (m := 2251799813685248) rfl rfl (by decide) rfl) (rfl) (In.wk (bB r5 (by decide)) rfl) rfl (fun z18 h10 r10 => ?_)))))))))
  refine ag (e' := z17 + z18) (lo := 0) (hi := 693554342615056383) (du rfl rfl) (em 13 (m := 8192) r9 rfl r10 rfl rfl rfl rfl (cN h9 (Int.mul_emod_left _ _)) rfl rfl) (In.wk (al r9 r10) rfl) rfl (fun z19 h11 r11 => oga rfl rfl (aT (aW [(4, _), (10, _), (149, _), (150, _), (11, _)] ⟨rfl, rfl, rfl, rfl, rfl, trivial⟩ (bg (aR (aU (aq (j := 1) (an rfl rfl) (by decide)) rfl (ogm rfl rfl (aT ?_))))))))
  refine bn (aS (aR (aU (bW rfl rfl) rfl (aT (aS (bF rfl (by decide) (a8 (aS ?_))))))))
  refine a5 (aS (aR (ogm rfl rfl (aU (iC (cs' := [_, _]) aQ cg iT rfl rfl (by decide) rfl) rfl (a9 (ab cg) rfl ?_)))))
  rintro _ w62 ⟨b7, rfl, eb7, hb10, k62, z20⟩
  have ge_b7 : w.heap.size ≤ b7 := by have := hB.size; omega
  have ne_b3_b7 : b3 ≠ b7 := by have := hb3.lt; omega
  have ne_b5_b7 : b5 ≠ b7 := by have := hb9.lt; omega
  obtain ⟨hB, hb3, hb9⟩ := cX k62 hB hb3 hb9
  clear eb7 z20
  refine oga rfl rfl (a6 (ak cg rfl rfl rfl (by simp only [List.forall_mem_cons]; refine ⟨rfl, rfl, fun v hv => by cases hv⟩) hb10 rfl) ?_)
  rintro _ w63 ⟨hb11, k63, z21⟩
  replace hb3 := hb3.keep k63 (nm ne_b3_b7)
  replace hb9 := hb9.keep k63 (nm ne_b5_b7)
  replace hB := hB.new k63 (nw ge_b7)
  clear z21
  replace hb11 : Bk w63 b7 _ [.int .u64 hi10, .int .u64 lo10] := hb11
  refine aT (aS (aR (aU (cT aI rfl aY (by decide) rfl) rfl (aU (aZ ai rfl hb11 rfl) rfl (ogm rfl rfl (aU (d5 (vs := [_, _, _]) rfl (ck _ _ _ (In.wk rb10 rfl) (In.wk r11 rfl) (In.wk (dG 0) rfl))) rfl (ogm rfl rfl (ag (e' := ((lo10 + z19 + 0) % 18446744073709551616)) (lo := 0) (hi := 18446744073709551615) (ar (vs := [_, _]) rfl rfl) (rfl) (In.wk (au _ (by decide)) rfl) rfl (fun z22 h12 r12 => ?_)))))))))
  refine ag (e' := ((lo10 + z19 + 0) / 18446744073709551616)) (lo := 0) (hi := 1) (ar (vs := [_, _]) rfl rfl) (rfl) (In.wk (bB (al (al rb10 r11) (dG 0)) (by decide)) rfl) rfl (fun z23 h13 r13 => oga rfl rfl (oga rfl rfl (aT (aW [(4, _), (10, _), (149, _), (150, _), (13, _), (12, _), (14, _), (15, _)] ⟨rfl, rfl, rfl, rfl, rfl, rfl, rfl, rfl, trivial⟩ (aS (aR (ogm rfl rfl (ogm rfl rfl ?_))))))))
  refine ag (e' := z22 % 2251799813685248) (lo := 0) (hi := 2251799813685247) (cY rfl rfl) (bd 51 r12 rfl rfl rfl rfl rfl rfl) (In.wk (au _ (by decide)) rfl) rfl (fun z24 h14 r14 => aU (aa aA aY rfl rfl (by decide)) rfl (a6 (cD aY rfl rfl rfl hb9 rfl) ?_))
  rintro _ w64 ⟨hb12, k64, z25⟩
  replace hb3 := hb3.keep k64 (nm ne_b3_b5)
  replace hb11 := hb11.keep k64 (nm (Ne.symm ne_b5_b7))
  replace hB := hB.new k64 (nw ge_b5)
  clear z25
  replace hb12 : Bk w64 b5 _ [.int .u64 z14, .int .u64 z24, .int .u64 0, .int .u64 0, .int .u64 0] := hb12
  refine aT (aR (aU (cT aI rfl aY (by decide) rfl) rfl (aU (aZ ai rfl hb11 rfl) rfl (ogm rfl rfl (ag (e' := hi10 + z23) (lo := 0) (hi := 64871186038784) (an rfl rfl) (am (al ra10 r13) rfl) (In.wk (al ra10 r13) rfl) rfl (fun z26 h15 r15 => ag (e' := z26 * 8192) (lo := 0) (hi := 531424756029718528) (dB (m := 8192) rfl rfl (by decide) rfl) (am (cn r15 (by decide)) rfl) (In.wk (cn r15 (by decide)) rfl) rfl (fun z27 h16 r16 => ogm rfl rfl (ag (e' := z22 / 2251799813685248) (lo := 0) (hi := 8191) (bl (m := 2251799813685248) rfl rfl (by decide) rfl) (rfl) (In.wk (bB r12 (by decide)) rfl) rfl (fun z28 h17 r17 => ?_)))))))))
  refine ag (e' := z27 + z28) (lo := 0) (hi := 531424756029726719) (du rfl rfl) (em 13 (m := 8192) r16 rfl r17 rfl rfl rfl rfl (cN h16 (Int.mul_emod_left _ _)) rfl rfl) (In.wk (al r16 r17) rfl) rfl (fun z29 h18 r18 => oga rfl rfl (aT (aW [(4, _), (10, _), (149, _), (150, _), (11, _)] ⟨rfl, rfl, rfl, rfl, rfl, trivial⟩ (bg (aR (aU (aq (j := 2) (an rfl rfl) (by decide)) rfl (ogm rfl rfl (aT ?_))))))))
  refine bn (aS (aR (aU (bW rfl rfl) rfl (aT (aS (bF rfl (by decide) (a8 (aS ?_))))))))
  refine a5 (aS (aR (ogm rfl rfl (aU (iC (cs' := [_, _]) aQ cg iT rfl rfl (by decide) rfl) rfl (a9 (ab cg) rfl ?_)))))
  rintro _ w65 ⟨b8, rfl, eb8, hb13, k65, z30⟩
  have ge_b8 : w.heap.size ≤ b8 := by have := hB.size; omega
  have ne_b3_b8 : b3 ≠ b8 := by have := hb3.lt; omega
  have ne_b5_b8 : b5 ≠ b8 := by have := hb12.lt; omega
  obtain ⟨hB, hb3, hb12⟩ := cX k65 hB hb3 hb12
  clear eb8 z30
  refine oga rfl rfl (a6 (ak cg rfl rfl rfl (by simp only [List.forall_mem_cons]; refine ⟨rfl, rfl, fun v hv => by cases hv⟩) hb13 rfl) ?_)
  rintro _ w66 ⟨hb14, k66, z31⟩
  replace hb3 := hb3.keep k66 (nm ne_b3_b8)
  replace hb12 := hb12.keep k66 (nm ne_b5_b8)
  replace hB := hB.new k66 (nw ge_b8)
  clear z31
  replace hb14 : Bk w66 b8 _ [.int .u64 hi15, .int .u64 lo15] := hb14
  refine aT (aS (aR (aU (cT aI rfl aY (by decide) rfl) rfl (aU (aZ ai rfl hb14 rfl) rfl (ogm rfl rfl (aU (d5 (vs := [_, _, _]) rfl (ck _ _ _ (In.wk rb15 rfl) (In.wk r18 rfl) (In.wk (dG 0) rfl))) rfl (ogm rfl rfl (ag (e' := ((lo15 + z29 + 0) % 18446744073709551616)) (lo := 0) (hi := 18446744073709551615) (ar (vs := [_, _]) rfl rfl) (rfl) (In.wk (au _ (by decide)) rfl) rfl (fun z32 h19 r19 => ?_)))))))))
  refine ag (e' := ((lo15 + z29 + 0) / 18446744073709551616)) (lo := 0) (hi := 1) (ar (vs := [_, _]) rfl rfl) (rfl) (In.wk (bB (al (al rb15 r18) (dG 0)) (by decide)) rfl) rfl (fun z33 h20 r20 => oga rfl rfl (oga rfl rfl (aT (aW [(4, _), (10, _), (149, _), (150, _), (13, _), (12, _), (14, _), (15, _)] ⟨rfl, rfl, rfl, rfl, rfl, rfl, rfl, rfl, trivial⟩ (aS (aR (ogm rfl rfl (ogm rfl rfl ?_))))))))
  refine ag (e' := z32 % 2251799813685248) (lo := 0) (hi := 2251799813685247) (cY rfl rfl) (bd 51 r19 rfl rfl rfl rfl rfl rfl) (In.wk (au _ (by decide)) rfl) rfl (fun z34 h21 r21 => aU (aa aA aY rfl rfl (by decide)) rfl (a6 (cD aY rfl rfl rfl hb12 rfl) ?_))
  rintro _ w67 ⟨hb15, k67, z35⟩
  replace hb3 := hb3.keep k67 (nm ne_b3_b5)
  replace hb14 := hb14.keep k67 (nm (Ne.symm ne_b5_b8))
  replace hB := hB.new k67 (nw ge_b5)
  clear z35
  replace hb15 : Bk w67 b5 _ [.int .u64 z14, .int .u64 z24, .int .u64 z34, .int .u64 0, .int .u64 0] := hb15
  refine aT (aR (aU (cT aI rfl aY (by decide) rfl) rfl (aU (aZ ai rfl hb14 rfl) rfl (ogm rfl rfl (ag (e' := hi15 + z33) (lo := 0) (hi := 45079976738816) (an rfl rfl) (am (al ra15 r20) rfl) (In.wk (al ra15 r20) rfl) rfl (fun z36 h22 r22 => ag (e' := z36 * 8192) (lo := 0) (hi := 369295169444380672) (dB (m := 8192) rfl rfl (by decide) rfl) (am (cn r22 (by decide)) rfl) (In.wk (cn r22 (by decide)) rfl) rfl (fun z37 h23 r23 => ogm rfl rfl (ag (e' := z32 / 2251799813685248) (lo := 0) (hi := 8191) (bl (m := 2251799813685248) rfl rfl (by decide) rfl) (rfl) (In.wk (bB r19 (by decide)) rfl) rfl (fun z38 h24 r24 => ?_)))))))))
  refine ag (e' := z37 + z38) (lo := 0) (hi := 369295169444388863) (du rfl rfl) (em 13 (m := 8192) r23 rfl r24 rfl rfl rfl rfl (cN h23 (Int.mul_emod_left _ _)) rfl rfl) (In.wk (al r23 r24) rfl) rfl (fun z39 h25 r25 => oga rfl rfl (aT (aW [(4, _), (10, _), (149, _), (150, _), (11, _)] ⟨rfl, rfl, rfl, rfl, rfl, trivial⟩ (bg (aR (aU (aq (j := 3) (an rfl rfl) (by decide)) rfl (ogm rfl rfl (aT ?_))))))))
  refine bn (aS (aR (aU (bW rfl rfl) rfl (aT (aS (bF rfl (by decide) (a8 (aS ?_))))))))
  refine a5 (aS (aR (ogm rfl rfl (aU (iC (cs' := [_, _]) aQ cg iT rfl rfl (by decide) rfl) rfl (a9 (ab cg) rfl ?_)))))
  rintro _ w68 ⟨b9, rfl, eb9, hb16, k68, z40⟩
  have ge_b9 : w.heap.size ≤ b9 := by have := hB.size; omega
  have ne_b3_b9 : b3 ≠ b9 := by have := hb3.lt; omega
  have ne_b5_b9 : b5 ≠ b9 := by have := hb15.lt; omega
  obtain ⟨hB, hb3, hb15⟩ := cX k68 hB hb3 hb15
  clear eb9 z40
  refine oga rfl rfl (a6 (ak cg rfl rfl rfl (by simp only [List.forall_mem_cons]; refine ⟨rfl, rfl, fun v hv => by cases hv⟩) hb16 rfl) ?_)
  rintro _ w69 ⟨hb17, k69, z41⟩
  replace hb3 := hb3.keep k69 (nm ne_b3_b9)
  replace hb15 := hb15.keep k69 (nm ne_b5_b9)
  replace hB := hB.new k69 (nw ge_b9)
  clear z41
  replace hb17 : Bk w69 b9 _ [.int .u64 hi20, .int .u64 lo20] := hb17
  refine aT (aS (aR (aU (cT aI rfl aY (by decide) rfl) rfl (aU (aZ ai rfl hb17 rfl) rfl (ogm rfl rfl (aU (d5 (vs := [_, _, _]) rfl (ck _ _ _ (In.wk rb20 rfl) (In.wk r25 rfl) (In.wk (dG 0) rfl))) rfl (ogm rfl rfl (ag (e' := ((lo20 + z39 + 0) % 18446744073709551616)) (lo := 0) (hi := 18446744073709551615) (ar (vs := [_, _]) rfl rfl) (rfl) (In.wk (au _ (by decide)) rfl) rfl (fun z42 h26 r26 => ?_)))))))))
  refine ag (e' := ((lo20 + z39 + 0) / 18446744073709551616)) (lo := 0) (hi := 1) (ar (vs := [_, _]) rfl rfl) (rfl) (In.wk (bB (al (al rb20 r25) (dG 0)) (by decide)) rfl) rfl (fun z43 h27 r27 => oga rfl rfl (oga rfl rfl (aT (aW [(4, _), (10, _), (149, _), (150, _), (13, _), (12, _), (14, _), (15, _)] ⟨rfl, rfl, rfl, rfl, rfl, rfl, rfl, rfl, trivial⟩ (aS (aR (ogm rfl rfl (ogm rfl rfl ?_))))))))
  refine ag (e' := z42 % 2251799813685248) (lo := 0) (hi := 2251799813685247) (cY rfl rfl) (bd 51 r26 rfl rfl rfl rfl rfl rfl) (In.wk (au _ (by decide)) rfl) rfl (fun z44 h28 r28 => aU (aa aA aY rfl rfl (by decide)) rfl (a6 (cD aY rfl rfl rfl hb15 rfl) ?_))
  rintro _ w70 ⟨hb18, k70, z45⟩
  replace hb3 := hb3.keep k70 (nm ne_b3_b5)
  replace hb17 := hb17.keep k70 (nm (Ne.symm ne_b5_b9))
  replace hB := hB.new k70 (nw ge_b5)
  clear z45
  replace hb18 : Bk w70 b5 _ [.int .u64 z14, .int .u64 z24, .int .u64 z34, .int .u64 z44, .int .u64 0] := hb18
  refine aT (aR (aU (cT aI rfl aY (by decide) rfl) rfl (aU (aZ ai rfl hb17 rfl) rfl (ogm rfl rfl (ag (e' := hi20 + z43) (lo := 0) (hi := 25288767438848) (an rfl rfl) (am (al ra20 r27) rfl) (In.wk (al ra20 r27) rfl) rfl (fun z46 h29 r29 => ag (e' := z46 * 8192) (lo := 0) (hi := 207165582859042816) (dB (m := 8192) rfl rfl (by decide) rfl) (am (cn r29 (by decide)) rfl) (In.wk (cn r29 (by decide)) rfl) rfl (fun z47 h30 r30 => ogm rfl rfl (ag (e' := z42 / 2251799813685248) (lo := 0) (hi := 8191) (bl (m := 2251799813685248) rfl rfl (by decide) rfl) (rfl) (In.wk (bB r26 (by decide)) rfl) rfl (fun z48 h31 r31 => ?_)))))))))
  refine ag (e' := z47 + z48) (lo := 0) (hi := 207165582859051007) (du rfl rfl) (em 13 (m := 8192) r30 rfl r31 rfl rfl rfl rfl (cN h30 (Int.mul_emod_left _ _)) rfl rfl) (In.wk (al r30 r31) rfl) rfl (fun z49 h32 r32 => oga rfl rfl (aT (aW [(4, _), (10, _), (149, _), (150, _), (11, _)] ⟨rfl, rfl, rfl, rfl, rfl, trivial⟩ (bg (aR (aU (aq (j := 4) (an rfl rfl) (by decide)) rfl (ogm rfl rfl (aT ?_))))))))
  refine bn (aS (aR (aU (bW rfl rfl) rfl (aT (aS (bF rfl (by decide) (a8 (aS ?_))))))))
  refine a5 (aS (aR (ogm rfl rfl (aU (iC (cs' := [_, _]) aQ cg iT rfl rfl (by decide) rfl) rfl (a9 (ab cg) rfl ?_)))))
  rintro _ w71 ⟨b10, rfl, eb10, hb19, k71, z50⟩
  have ge_b10 : w.heap.size ≤ b10 := by have := hB.size; omega
  have ne_b3_b10 : b3 ≠ b10 := by have := hb3.lt; omega
  have ne_b5_b10 : b5 ≠ b10 := by have := hb18.lt; omega
  obtain ⟨hB, hb3, hb18⟩ := cX k71 hB hb3 hb18
  clear eb10 z50
  refine oga rfl rfl (a6 (ak cg rfl rfl rfl (by simp only [List.forall_mem_cons]; refine ⟨rfl, rfl, fun v hv => by cases hv⟩) hb19 rfl) ?_)
  rintro _ w72 ⟨hb20, k72, z51⟩
  replace hb3 := hb3.keep k72 (nm ne_b3_b10)
  replace hb18 := hb18.keep k72 (nm ne_b5_b10)
  replace hB := hB.new k72 (nw ge_b10)
  clear z51
  replace hb20 : Bk w72 b10 _ [.int .u64 hi25, .int .u64 lo25] := hb20
  refine aT (aS (aR (aU (cT aI rfl aY (by decide) rfl) rfl (aU (aZ ai rfl hb20 rfl) rfl (ogm rfl rfl (aU (d5 (vs := [_, _, _]) rfl (ck _ _ _ (In.wk rb25 rfl) (In.wk r32 rfl) (In.wk (dG 0) rfl))) rfl (ogm rfl rfl (ag (e' := ((lo25 + z49 + 0) % 18446744073709551616)) (lo := 0) (hi := 18446744073709551615) (ar (vs := [_, _]) rfl rfl) (rfl) (In.wk (au _ (by decide)) rfl) rfl (fun z52 h33 r33 => ?_)))))))))
  refine ag (e' := ((lo25 + z49 + 0) / 18446744073709551616)) (lo := 0) (hi := 1) (ar (vs := [_, _]) rfl rfl) (rfl) (In.wk (bB (al (al rb25 r32) (dG 0)) (by decide)) rfl) rfl (fun z53 h34 r34 => oga rfl rfl (oga rfl rfl (aT (aW [(4, _), (10, _), (149, _), (150, _), (13, _), (12, _), (14, _), (15, _)] ⟨rfl, rfl, rfl, rfl, rfl, rfl, rfl, rfl, trivial⟩ (aS (aR (ogm rfl rfl (ogm rfl rfl ?_))))))))
  refine ag (e' := z52 % 2251799813685248) (lo := 0) (hi := 2251799813685247) (cY rfl rfl) (bd 51 r33 rfl rfl rfl rfl rfl rfl) (In.wk (au _ (by decide)) rfl) rfl (fun z54 h35 r35 => aU (aa aA aY rfl rfl (by decide)) rfl (a6 (cD aY rfl rfl rfl hb18 rfl) ?_))
  rintro _ w73 ⟨hb21, k73, z55⟩
  replace hb3 := hb3.keep k73 (nm ne_b3_b5)
  replace hb20 := hb20.keep k73 (nm (Ne.symm ne_b5_b10))
  replace hB := hB.new k73 (nw ge_b5)
  clear z55
  replace hb21 : Bk w73 b5 _ [.int .u64 z14, .int .u64 z24, .int .u64 z34, .int .u64 z44, .int .u64 z54] := hb21
  refine aT (aR (aU (cT aI rfl aY (by decide) rfl) rfl (aU (aZ ai rfl hb20 rfl) rfl (ogm rfl rfl (ag (e' := hi25 + z53) (lo := 0) (hi := 5497558138880) (an rfl rfl) (am (al ra25 r34) rfl) (In.wk (al ra25 r34) rfl) rfl (fun z56 h36 r36 => ag (e' := z56 * 8192) (lo := 0) (hi := 45035996273704960) (dB (m := 8192) rfl rfl (by decide) rfl) (am (cn r36 (by decide)) rfl) (In.wk (cn r36 (by decide)) rfl) rfl (fun z57 h37 r37 => ogm rfl rfl (ag (e' := z52 / 2251799813685248) (lo := 0) (hi := 8191) (bl (m := 2251799813685248) rfl rfl (by decide) rfl) (rfl) (In.wk (bB r33 (by decide)) rfl) rfl (fun z58 h38 r38 => ?_)))))))))
  refine ag (e' := z57 + z58) (lo := 0) (hi := 45035996273713151) (du rfl rfl) (em 13 (m := 8192) r37 rfl r38 rfl rfl rfl rfl (cN h37 (Int.mul_emod_left _ _)) rfl rfl) (In.wk (al r37 r38) rfl) rfl (fun z59 h39 r39 => oga rfl rfl (aT (aW [(4, _), (10, _), (149, _), (150, _), (11, _)] ⟨rfl, rfl, rfl, rfl, rfl, trivial⟩ (bg (aR (aU (aq (j := 5) (an rfl rfl) (by decide)) rfl (ogm rfl rfl (aT ?_))))))))
  refine bn (aS (aR (aU (bW rfl rfl) rfl (aT (aS (cU rfl (by decide) (bE rfl (aS ?_))))))))
  refine aR (aU (aa aA aY rfl rfl (by decide)) rfl (aU (aZ ai rfl hb21 rfl) rfl (ogm rfl rfl (ag (e' := 19 * z59) (lo := 0) (hi := 855683929200549869) (dZ rfl rfl) (am (co r39 (by decide)) rfl) (In.wk (co r39 (by decide)) rfl) rfl (fun z60 h40 r40 => ag (e' := z14 + z60) (lo := 0) (hi := 857935729014235116) (an rfl rfl) (am (al r7 r40) rfl) (In.wk (al r7 r40) rfl) rfl (fun z61 h41 r41 => aU (aa aA aY rfl rfl (by decide)) rfl (a6 (cD aY rfl rfl rfl hb21 rfl) ?_)))))))
  rintro _ w74 ⟨hb22, k74, z62⟩
  replace hb3 := hb3.keep k74 (nm ne_b3_b5)
  replace hB := hB.new k74 (nw ge_b5)
  clear z62
  replace hb22 : Bk w74 b5 _ [.int .u64 z61, .int .u64 z24, .int .u64 z34, .int .u64 z44, .int .u64 z54] := hb22
  refine aT (aW [(4, _), (10, _)] ⟨rfl, rfl, trivial⟩ (aS (aR (aU (aX (cs' := [_, _, _, _, _]) ay ah rfl hb22 rfl rfl) rfl (a9 (aV (vs := [_]) rfl (d9 (vecN [z61, z24, z34, z44, z54]) (In.wk r41 rfl) (In.wk r14 rfl) (In.wk r21 rfl) (In.wk r28 rfl) (In.wk r35 rfl) _)) rfl ?_)))))
  rintro _ w75 ⟨hh1, c01, c11, c21, c31, c41, rfl, e01, e11, e21, e31, e41, g01, g11, g21, g31, g41, gv1, k75⟩
  obtain ⟨hB, hb3⟩ := bT k75 hB hb3
  replace e01 : c01 = z61 / 2251799813685248 := e01
  replace e11 : c11 = (z24 + c01) / 2251799813685248 := e11
  replace e21 : c21 = (z34 + c11) / 2251799813685248 := e21
  replace e31 : c31 = (z44 + c21) / 2251799813685248 := e31
  replace e41 : c41 = (z54 + c31) / 2251799813685248 := e41
  replace g01 : hh1 0 = z61 % 2251799813685248 + 19 * c41 := g01
  replace g11 : hh1 1 = (z24 + c01) % 2251799813685248 := g11
  replace g21 : hh1 2 = (z34 + c11) % 2251799813685248 := g21
  replace g31 : hh1 3 = (z44 + c21) % 2251799813685248 := g31
  replace g41 : hh1 4 = (z54 + c31) % 2251799813685248 := g41
  replace gv1 : dC hh1 + c41 * 57896044618658097711785492504343953926634992332820282019728792003956564819949 = z61 + z24 * 2251799813685248 + z34 * 5070602400912917605986812821504 + z44 * 11417981541647679048466287755595961091061972992 + z54 * 25711008708143844408671393477458601640355247900524685364822016 := gv1
  obtain ⟨r42, r43, r44, r45, r46⟩ := cf (t := 2251799813685266) e01 e11 e21 e31 e41 g01 g11 g21 g31 g41 (In.wk r41 rfl : In _ 0 857935729014235116) (In.wk r14 rfl : In _ 0 2251799813685247) (In.wk r21 rfl : In _ 0 2251799813685247) (In.wk r28 rfl : In _ 0 2251799813685247) (In.wk r35 rfl : In _ 0 2251799813685247) rfl
  refine a6 (ak ah rfl rfl rfl ad hb3 rfl) ?_
  rintro _ w76 ⟨hb23, k76, z63⟩
  replace hB := hB.new k76 (nw ge_b3)
  clear z63
  replace hb23 := cv (g := hh1) hb23
  refine aT (bP hfin Tryd.results54 rfl (ae ay ah hb23 rfl)  ?_)
  have t0 : hi5 * 18446744073709551616 + lo5 = f 0 * g 0 + 19 * (f 1 * g 4) + 19 * (f 2 * g 3) + 19 * (f 3 * g 2) + 19 * (f 4 * g 1) := by
    have a_eq1 : _ = _ := eq1
    have a_eq2 : _ = _ := eq2
    have a_eq3 : _ = _ := eq3
    have a_eq4 : _ = _ := eq4
    have a_eq5 : _ = _ := ms
    have qz7 : (f 1) * z7 = 19 * ((f 1) * (g 4)) := by rw [show z7 = _ from h4]; exact Int.mul_left_comm _ _ _
    have qz6 : (f 2) * z6 = 19 * ((f 2) * (g 3)) := by rw [show z6 = _ from h3]; exact Int.mul_left_comm _ _ _
    have qz5 : (f 3) * z5 = 19 * ((f 3) * (g 2)) := by rw [show z5 = _ from h2]; exact Int.mul_left_comm _ _ _
    have qz4 : (f 4) * z4 = 19 * ((f 4) * (g 1)) := by rw [show z4 = _ from h1]; exact Int.mul_left_comm _ _ _
    omega
  have t1 : hi10 * 18446744073709551616 + lo10 = f 0 * g 1 + f 1 * g 0 + 19 * (f 2 * g 4) + 19 * (f 3 * g 3) + 19 * (f 4 * g 2) := by
    have a_eq6 : _ = _ := eq6
    have a_eq7 : _ = _ := eq7
    have a_eq8 : _ = _ := eq8
    have a_eq9 : _ = _ := eq9
    have a_eq10 : _ = _ := eq10
    have qz7 : (f 2) * z7 = 19 * ((f 2) * (g 4)) := by rw [show z7 = _ from h4]; exact Int.mul_left_comm _ _ _
    have qz6 : (f 3) * z6 = 19 * ((f 3) * (g 3)) := by rw [show z6 = _ from h3]; exact Int.mul_left_comm _ _ _
    have qz5 : (f 4) * z5 = 19 * ((f 4) * (g 2)) := by rw [show z5 = _ from h2]; exact Int.mul_left_comm _ _ _
    omega
  have t2 : hi15 * 18446744073709551616 + lo15 = f 0 * g 2 + f 1 * g 1 + f 2 * g 0 + 19 * (f 3 * g 4) + 19 * (f 4 * g 3) := by
    have a_eq11 : _ = _ := eq11
    have a_eq12 : _ = _ := eq12
    have a_eq13 : _ = _ := eq13
    have a_eq14 : _ = _ := eq14
    have a_eq15 : _ = _ := eq15
    have qz7 : (f 3) * z7 = 19 * ((f 3) * (g 4)) := by rw [show z7 = _ from h4]; exact Int.mul_left_comm _ _ _
    have qz6 : (f 4) * z6 = 19 * ((f 4) * (g 3)) := by rw [show z6 = _ from h3]; exact Int.mul_left_comm _ _ _
    omega
  have t3 : hi20 * 18446744073709551616 + lo20 = f 0 * g 3 + f 1 * g 2 + f 2 * g 1 + f 3 * g 0 + 19 * (f 4 * g 4) := by
    have a_eq16 : _ = _ := eq16
    have a_eq17 : _ = _ := eq17
    have a_eq18 : _ = _ := eq18
    have a_eq19 : _ = _ := eq19
    have a_eq20 : _ = _ := eq20
    have qz7 : (f 4) * z7 = 19 * ((f 4) * (g 4)) := by rw [show z7 = _ from h4]; exact Int.mul_left_comm _ _ _
    omega
  have t4 : hi25 * 18446744073709551616 + lo25 = f 0 * g 4 + f 1 * g 3 + f 2 * g 2 + f 3 * g 1 + f 4 * g 0 := by
    have a_eq21 : _ = _ := eq21
    have a_eq22 : _ = _ := eq22
    have a_eq23 : _ = _ := eq23
    have a_eq24 : _ = _ := eq24
    have a_eq25 : _ = _ := eq25
    omega
  exact ⟨hh1, rfl, ⟨(In.wk r42 rfl), (In.wk r43 rfl), (In.wk r44 rfl), (In.wk r45 rfl), (In.wk r46 rfl), mul_fp hfv hgv (z59 + c41) _ _ _ _ _ t0 t1 t2 t3 t4 (by clear t0 t1 t2 t3 t4; simp only [Eqn] at h5 h6 h7 h8 h9 h10 h11 h12 h13 h14 h15 h16 h17 h18 h19 h20 h21 h22 h23 h24 h25 h26 h27 h28 h29 h30 h31 h32 h33 h34 h35 h36 h37 h38 h39 h40 h41; omega)⟩, hB⟩
theorem bm (f : Nat → Int) (a : Fp) (n : Int) (hf : El f a) (hn : 0 ≤ n ∧ n ≤ 1000) (w : World) : Rets Tryd.prog 66 [.agg (iv .u64 5 f).toArray, .int .i64 n] w (fun v w' => ∃ h, v = .agg (iv .u64 5 h).toArray ∧ El h (fpow a (2 ^ n.toNat)) ∧ Keep [] w w') := by
 have hB : Keep [] w w := Keep.refl _ _
 refine a7 Tryd.func66 rfl (by decide) Tryd.ntmps66 rfl (fun fin _ hfin => aS (aR (a9 (bc (cs := [.int .u64 (f 0), .int .u64 (f 1), .int .u64 (f 2), .int .u64 (f 3), .int .u64 (f 4)]) rfl rfl) rfl ?_)))
 rintro _ w1 ⟨b1, rfl, eb1, hb1, k1, z1⟩
 have ge_b1 : w.heap.size ≤ b1 := by have := hB.size; omega
 replace hB := hB.trans k1
 clear eb1 z1
 refine a9 (ab ah) rfl ?_
 rintro _ w2 ⟨b2, rfl, eb2, hb2, k2, z2⟩
 have ge_b2 : w.heap.size ≤ b2 := by have := hB.size; omega
 have ne_b1_b2 : b1 ≠ b2 := by have := hb1.lt; omega
 obtain ⟨hB, hb1⟩ := bT k2 hB hb1
 clear eb2 z2
 refine aT (aS (aS (aR (ogm rfl rfl (ogm rfl rfl (aT (a5 (bi (Γ := Int × (Nat → Int)) (fun ⟨i, h⟩ => [(2, .pointer (some ⟨b1, 0, none⟩)), (4, .pointer (some ⟨b2, 0, none⟩)), (5, .int .i64 n), (6, .int .i64 i)]) (fun ⟨i, h⟩ W => 0 ≤ i ∧ i ≤ n ∧ El h (fpow a (2 ^ i.toNat)) ∧ Bk W b1 41 (iv .u64 5 h) ∧ Bk W b2 41 [.int .u64 0, .int .u64 0, .int .u64 0, .int .u64 0, .int .u64 0] ∧ Keep [] w W) (fun ⟨i, h⟩ => (n - i).toNat) ⟨0, f⟩ ⟨rfl, rfl, rfl, rfl, trivial⟩ (⟨by decide, by omega, by simpa [kB] using hf, hb1, hb2, hB⟩) ?_))))))))
 rintro ⟨i, h⟩ w3 ⟨hi0, hi1, hE, hb1, hb2, hB⟩
 refine aW [(2, .pointer (some ⟨b1, 0, none⟩)), (4, .pointer (some ⟨b2, 0, none⟩)), (5, .int .i64 n), (6, .int .i64 i)] ⟨rfl, rfl, rfl, rfl, trivial⟩ ?_
 have zz := hB.size
 refine aS (aR (aU (bW rfl rfl) rfl (aT (aS (bo rfl (fun hc1 => ?_) (fun hc1 => ?_))))))
 ·
  refine a8 (aS (a5 (aR (aU (aX (cs' := [_, _, _, _, _]) ay ah rfl hb1 rfl rfl) rfl (aU (aX (cs' := [_, _, _, _, _]) ay ah rfl hb1 rfl rfl) rfl (a9 (aV (vs := [_, _]) rfl (cF _ _ _ _ hE hE _)) rfl ?_))))))
  rintro _ w4 ⟨hh1, rfl, E1, k3⟩
  obtain ⟨hB, hb1, hb2⟩ := cX k3 hB hb1 hb2
  refine a6 (ak ah rfl rfl rfl ad hb1 rfl) ?_
  rintro _ w5 ⟨hb3, k4, z3⟩
  replace hb2 := hb2.keep k4 (nm (Ne.symm ne_b1_b2))
  replace hB := hB.new k4 (nw ge_b1)
  clear z3
  replace hb3 := cv (g := hh1) hb3
  refine aT (bg (aR (aU (cI rfl rfl (by omega)) rfl (ogm rfl rfl (aT (cA (Γ := Int × (Nat → Int)) ⟨i + 1, hh1⟩ ⟨rfl, rfl, rfl, rfl, trivial⟩ (by (try dsimp only); omega) (⟨by omega, by omega, by rw [show (i + 1).toNat = i.toNat + 1 from by omega, ← oV]; exact E1, by assumption, by assumption, hB⟩)))))))
 ·
  refine bE rfl (aS (aR (aU (aX (cs' := [_, _, _, _, _]) ay ah rfl hb1 rfl rfl) rfl (a6 (ak ah rfl rfl rfl (by simp only [List.forall_mem_cons]; refine ⟨rfl, rfl, rfl, rfl, rfl, fun v hv => by cases hv⟩) hb2 rfl) ?_))))
  rintro _ w6 ⟨hb4, k5, z4⟩
  replace hB := hB.new k5 (nw ge_b2)
  clear z4
  replace hb4 := cv (g := h) hb4
  refine aT (bP hfin Tryd.results66 rfl (ae ay ah hb4 rfl)  ?_)
  obtain rfl : i = n := by omega
  exact ⟨h, rfl, hE, hB⟩
theorem gx (f : Nat → Int) (a : Fp) (hf : El f (fpow a 1)) (w : World) : Rets Tryd.prog 65 [.agg (iv .u64 5 f).toArray] w (fun v w' => ∃ g h, v = .tuple #[.agg (iv .u64 5 g).toArray, .agg (iv .u64 5 h).toArray] ∧ El g (fpow a 1809251394333065553493296640760748560207343510400633813116524750123642650623) ∧ El h (fpow a 11) ∧ Keep [] w w') := by
  have hB : Keep [] w w := Keep.refl _ _
  refine a7 Tryd.func65 rfl (by decide) Tryd.ntmps65 rfl (fun fin _ hfin => aS (aR (a9 (bc (cs := [.int .u64 (f 0), .int .u64 (f 1), .int .u64 (f 2), .int .u64 (f 3), .int .u64 (f 4)]) rfl rfl) rfl ?_)))
  rintro _ w1 ⟨b1, rfl, eb1, hb1, k1, z1⟩
  replace hB := hB.trans k1
  clear eb1 z1
  refine a9 (ab ah) rfl ?_
  rintro _ w2 ⟨b2, rfl, eb2, hb2, k2, z2⟩
  have ge_b2 : w.heap.size ≤ b2 := by have := hB.size; omega
  obtain ⟨hB, hb1⟩ := bT k2 hB hb1
  clear eb2 z2
  refine a9 (ab ah) rfl ?_
  rintro _ w3 ⟨b3, rfl, eb3, hb3, k3, z3⟩
  have ge_b3 : w.heap.size ≤ b3 := by have := hB.size; omega
  have ne_b2_b3 : b2 ≠ b3 := by have := hb2.lt; omega
  obtain ⟨hB, hb1, hb2⟩ := cX k3 hB hb1 hb2
  clear eb3 z3
  refine aT (aS (aR (aU (aX (cs' := [_, _, _, _, _]) ay ah rfl hb1 rfl rfl) rfl (a9 (aV (vs := [_, _]) rfl (bm _ _ _ hf (by decide) _)) rfl ?_))))
  rintro _ w4 ⟨hh1, rfl, E1, k4⟩
  obtain ⟨hB, hb1, hb2, hb3⟩ := cy k4 hB hb1 hb2 hb3
  replace E1 : El hh1 (fpow a 2) := eH (n := 1) E1 rfl
  refine a9 (ab ah) rfl ?_
  rintro _ w5 ⟨b4, rfl, eb4, hb4, k5, z4⟩
  have ge_b4 : w.heap.size ≤ b4 := by have := hB.size; omega
  have ne_b1_b4 : b1 ≠ b4 := by have := hb1.lt; omega
  have ne_b2_b4 : b2 ≠ b4 := by have := hb2.lt; omega
  have ne_b3_b4 : b3 ≠ b4 := by have := hb3.lt; omega
  obtain ⟨hB, hb1, hb2, hb3⟩ := cy k5 hB hb1 hb2 hb3
  clear eb4 z4
  refine a6 (ak ah rfl rfl rfl ad hb4 rfl) ?_
  rintro _ w6 ⟨hb5, k6, z5⟩
  replace hb1 := hb1.keep k6 (nm ne_b1_b4)
  replace hb2 := hb2.keep k6 (nm ne_b2_b4)
  replace hb3 := hb3.keep k6 (nm ne_b3_b4)
  replace hB := hB.new k6 (nw ge_b4)
  clear z5
  replace hb5 := cv (g := hh1) hb5
  refine aT (aS ?_)
  have gs1 := hB.size
  have lt1 := hb1.lt
  have lt2 := hb2.lt
  have lt3 := hb3.lt
  have lt4 := hb5.lt
  refine bJ 5 [0, 2, 1, 3] [1, 3] [] [(4, 41, [.int .u64 0, .int .u64 0, .int .u64 0, .int .u64 0, .int .u64 0])] mixed [(4, _), (1, _), (2, _), (3, _)] ⟨rfl, rfl, rfl, rfl, trivial⟩ (by decide +kernel) (by decide) (by decide) ?_ (fun x hx => by cases hx) rfl (fun w7 k7 => ?_)
  · simp only [List.forall_mem_cons]; exact ⟨⟨_, _, _, _, _, _, rfl, ah⟩, fun q hq => by cases hq⟩
  obtain ⟨hB, hb1, hb2, hb3, hb5⟩ := dg k7 hB hb1 hb2 hb3 hb5
  refine af 4 rfl rfl rfl rfl (fun W' kk => aX (cs' := [_, _, _, _, _]) ay ah rfl (Bk.pK hb5 kk) rfl rfl) (af 1 rfl rfl rfl rfl (fun W' kk => aX (cs' := [_, _, _, _, _]) ay ah rfl (Bk.pK hb1 kk) rfl rfl) (bY [(15, _)] rfl rfl ⟨rfl, trivial⟩ rfl (fun w9 k9 => ?_)))
  obtain ⟨hB, hb1, hb2, hb3, hb5⟩ := dg k9 hB hb1 hb2 hb3 hb5
  refine (aV (vs := [_, _]) rfl (bm _ _ _ E1 (by decide) _)).mono ?_
  rintro _ w8 ⟨hh2, rfl, E2, k8⟩
  refine ⟨k8, nox, ?_⟩
  obtain ⟨hB, hb1, hb2, hb3, hb5⟩ := dg k8 hB hb1 hb2 hb3 hb5
  replace E2 : El hh2 (fpow a 8) := eH (n := 2) E2 rfl
  refine bY [(16, _), (17, _)] rfl rfl ⟨rfl, rfl, trivial⟩ rfl (fun w11 k11 => ?_)
  obtain ⟨hB, hb1, hb2, hb3, hb5⟩ := dg k11 hB hb1 hb2 hb3 hb5
  refine (aV (vs := [_, _]) rfl (cF _ _ _ _ E2 hf _)).mono ?_
  rintro _ w10 ⟨hh3, rfl, E3, k10⟩
  refine ⟨k10, nox, ?_⟩
  obtain ⟨hB, hb1, hb2, hb3, hb5⟩ := dg k10 hB hb1 hb2 hb3 hb5
  replace E3 : El hh3 (fpow a 9) := dO E3 rfl
  refine cC (fun w12 k12 => ?_)
  obtain ⟨hB, hb1, hb2, hb3, hb5⟩ := dg k12 hB hb1 hb2 hb3 hb5
  intro b5 eb5 lb1 hb6 ds1 sp1
  have ge_b5 : w.heap.size ≤ b5 := Nat.le_trans gs1 eb5
  have ne_b1_b5 : b1 ≠ b5 := Nat.ne_of_lt (Nat.lt_of_lt_of_le lt1 eb5)
  have ne_b2_b5 : b2 ≠ b5 := Nat.ne_of_lt (Nat.lt_of_lt_of_le lt2 eb5)
  have ne_b3_b5 : b3 ≠ b5 := Nat.ne_of_lt (Nat.lt_of_lt_of_le lt3 eb5)
  have ne_b4_b5 : b4 ≠ b5 := Nat.ne_of_lt (Nat.lt_of_lt_of_le lt4 eb5)
  refine bK (a6 (ak ah rfl rfl rfl ad hb6 rfl) ?_)
  rintro _ w13 ⟨hb7, k13, z6⟩
  replace hb1 := hb1.keep k13 (nm ne_b1_b5)
  replace hb2 := hb2.keep k13 (nm ne_b2_b5)
  replace hb3 := hb3.keep k13 (nm ne_b3_b5)
  replace hb5 := hb5.keep k13 (nm ne_b4_b5)
  replace hB := hB.new k13 (nw ge_b5)
  clear z6
  replace hb7 := cv (g := hh3) hb7
  refine aT (aS (aR (aU (aX (cs' := [_, _, _, _, _]) ay ah rfl hb7 rfl rfl) rfl (aU (aX (cs' := [_, _, _, _, _]) ay ah rfl hb5 rfl rfl) rfl (a9 (aV (vs := [_, _]) rfl (cF _ _ _ _ E3 E1 _)) rfl ?_)))))
  rintro _ w14 ⟨hh4, rfl, E4, k14⟩
  obtain ⟨hB, hb2, hb3, hb5, hb7⟩ := dg k14 hB hb2 hb3 hb5 hb7
  replace E4 : El hh4 (fpow a 11) := dO E4 rfl
  refine a6 (ak ah rfl rfl rfl ad hb3 rfl) ?_
  rintro _ w15 ⟨hb8, k15, z7⟩
  replace hb2 := hb2.keep k15 (nm ne_b2_b3)
  replace hb5 := hb5.keep k15 (nm (Ne.symm ne_b3_b4))
  replace hb7 := hb7.keep k15 (nm (Ne.symm ne_b3_b5))
  replace hB := hB.new k15 (nw ge_b3)
  clear z7
  replace hb8 := cv (g := hh4) hb8
  refine aT (aS ?_)
  have gs2 := hB.size
  have lt5 := hb2.lt
  have lt6 := hb7.lt
  have lt7 := hb8.lt
  refine bJ 5 [0, 2, 1, 3] [1, 3] [] [(4, 41, [.int .u64 0, .int .u64 0, .int .u64 0, .int .u64 0, .int .u64 0])] mixed [(3, _), (5, _), (2, _)] ⟨rfl, rfl, rfl, trivial⟩ (by decide +kernel) (by decide) (by decide) ?_ (fun x hx => by cases hx) rfl (fun w16 k16 => ?_)
  · simp only [List.forall_mem_cons]; exact ⟨⟨_, _, _, _, _, _, rfl, ah⟩, fun q hq => by cases hq⟩
  obtain ⟨hB, hb2, hb7, hb8⟩ := cy k16 hB hb2 hb7 hb8
  refine af 3 rfl rfl rfl rfl (fun W' kk => aX (cs' := [_, _, _, _, _]) ay ah rfl (Bk.pK hb8 kk) rfl rfl) (af 5 rfl rfl rfl rfl (fun W' kk => aX (cs' := [_, _, _, _, _]) ay ah rfl (Bk.pK hb7 kk) rfl rfl) (bY [(22, _)] rfl rfl ⟨rfl, trivial⟩ rfl (fun w18 k18 => ?_)))
  obtain ⟨hB, hb2, hb7, hb8⟩ := cy k18 hB hb2 hb7 hb8
  refine (aV (vs := [_, _]) rfl (bm _ _ _ E4 (by decide) _)).mono ?_
  rintro _ w17 ⟨hh5, rfl, E5, k17⟩
  refine ⟨k17, nox, ?_⟩
  obtain ⟨hB, hb2, hb7, hb8⟩ := cy k17 hB hb2 hb7 hb8
  replace E5 : El hh5 (fpow a 22) := eH (n := 1) E5 rfl
  refine bY [(23, _), (24, _)] rfl rfl ⟨rfl, rfl, trivial⟩ rfl (fun w20 k20 => ?_)
  obtain ⟨hB, hb2, hb7, hb8⟩ := cy k20 hB hb2 hb7 hb8
  refine (aV (vs := [_, _]) rfl (cF _ _ _ _ E5 E3 _)).mono ?_
  rintro _ w19 ⟨hh6, rfl, E6, k19⟩
  refine ⟨k19, nox, ?_⟩
  obtain ⟨hB, hb2, hb7, hb8⟩ := cy k19 hB hb2 hb7 hb8
  replace E6 : El hh6 (fpow a 31) := dO E6 rfl
  refine cC (fun w21 k21 => ?_)
  obtain ⟨hB, hb2, hb7, hb8⟩ := cy k21 hB hb2 hb7 hb8
  intro b6 eb6 lb2 hb9 ds2 sp2
  have ge_b6 : w.heap.size ≤ b6 := Nat.le_trans gs2 eb6
  have ne_b2_b6 : b2 ≠ b6 := Nat.ne_of_lt (Nat.lt_of_lt_of_le lt5 eb6)
  have ne_b5_b6 : b5 ≠ b6 := Nat.ne_of_lt (Nat.lt_of_lt_of_le lt6 eb6)
  have ne_b3_b6 : b3 ≠ b6 := Nat.ne_of_lt (Nat.lt_of_lt_of_le lt7 eb6)
  refine bK (a6 (ak ah rfl rfl rfl ad hb9 rfl) ?_)
  rintro _ w22 ⟨hb10, k22, z8⟩
  replace hb2 := hb2.keep k22 (nm ne_b2_b6)
  replace hb7 := hb7.keep k22 (nm ne_b5_b6)
  replace hb8 := hb8.keep k22 (nm ne_b3_b6)
  replace hB := hB.new k22 (nw ge_b6)
  clear z8
  replace hb10 := cv (g := hh6) hb10
  refine aT (aS ?_)
  have gs3 := hB.size
  have lt8 := hb2.lt
  have lt9 := hb8.lt
  have lt10 := hb10.lt
  refine bJ 5 [0, 2, 1, 3] [1, 3] [] [(4, 41, [.int .u64 0, .int .u64 0, .int .u64 0, .int .u64 0, .int .u64 0])] mixed [(6, _), (3, _), (2, _)] ⟨rfl, rfl, rfl, trivial⟩ (by decide +kernel) (by decide) (by decide) ?_ (fun x hx => by cases hx) rfl (fun w23 k23 => ?_)
  · simp only [List.forall_mem_cons]; exact ⟨⟨_, _, _, _, _, _, rfl, ah⟩, fun q hq => by cases hq⟩
  obtain ⟨hB, hb2, hb8, hb10⟩ := cy k23 hB hb2 hb8 hb10
  refine af 6 rfl rfl rfl rfl (fun W' kk => aX (cs' := [_, _, _, _, _]) ay ah rfl (Bk.pK hb10 kk) rfl rfl) (af 6 rfl rfl rfl rfl (fun W' kk => aX (cs' := [_, _, _, _, _]) ay ah rfl (Bk.pK hb10 kk) rfl rfl) (bY [(26, _)] rfl rfl ⟨rfl, trivial⟩ rfl (fun w25 k25 => ?_)))
  obtain ⟨hB, hb2, hb8, hb10⟩ := cy k25 hB hb2 hb8 hb10
  refine (aV (vs := [_, _]) rfl (bm _ _ _ E6 (by decide) _)).mono ?_
  rintro _ w24 ⟨hh7, rfl, E7, k24⟩
  refine ⟨k24, nox, ?_⟩
  obtain ⟨hB, hb2, hb8, hb10⟩ := cy k24 hB hb2 hb8 hb10
  replace E7 : El hh7 (fpow a 992) := eH (n := 5) E7 rfl
  refine bY [(27, _), (28, _)] rfl rfl ⟨rfl, rfl, trivial⟩ rfl (fun w27 k27 => ?_)
  obtain ⟨hB, hb2, hb8, hb10⟩ := cy k27 hB hb2 hb8 hb10
  refine (aV (vs := [_, _]) rfl (cF _ _ _ _ E7 E6 _)).mono ?_
  rintro _ w26 ⟨hh8, rfl, E8, k26⟩
  refine ⟨k26, nox, ?_⟩
  obtain ⟨hB, hb2, hb8, hb10⟩ := cy k26 hB hb2 hb8 hb10
  replace E8 : El hh8 (fpow a 1023) := dO E8 rfl
  refine cC (fun w28 k28 => ?_)
  obtain ⟨hB, hb2, hb8, hb10⟩ := cy k28 hB hb2 hb8 hb10
  intro b7 eb7 lb3 hb11 ds3 sp3
  have ge_b7 : w.heap.size ≤ b7 := Nat.le_trans gs3 eb7
  have ne_b2_b7 : b2 ≠ b7 := Nat.ne_of_lt (Nat.lt_of_lt_of_le lt8 eb7)
  have ne_b3_b7 : b3 ≠ b7 := Nat.ne_of_lt (Nat.lt_of_lt_of_le lt9 eb7)
  have ne_b6_b7 : b6 ≠ b7 := Nat.ne_of_lt (Nat.lt_of_lt_of_le lt10 eb7)
  refine bK (a6 (ak ah rfl rfl rfl ad hb11 rfl) ?_)
  rintro _ w29 ⟨hb12, k29, z9⟩
  replace hb2 := hb2.keep k29 (nm ne_b2_b7)
  replace hb8 := hb8.keep k29 (nm ne_b3_b7)
  replace hb10 := hb10.keep k29 (nm ne_b6_b7)
  replace hB := hB.new k29 (nw ge_b7)
  clear z9
  replace hb12 := cv (g := hh8) hb12
  refine aT (aS ?_)
  have gs4 := hB.size
  have lt11 := hb2.lt
  have lt12 := hb8.lt
  have lt13 := hb12.lt
  refine bJ 5 [0, 2, 1, 3] [1, 3] [] [(4, 41, [.int .u64 0, .int .u64 0, .int .u64 0, .int .u64 0, .int .u64 0])] mixed [(7, _), (3, _), (2, _)] ⟨rfl, rfl, rfl, trivial⟩ (by decide +kernel) (by decide) (by decide) ?_ (fun x hx => by cases hx) rfl (fun w30 k30 => ?_)
  · simp only [List.forall_mem_cons]; exact ⟨⟨_, _, _, _, _, _, rfl, ah⟩, fun q hq => by cases hq⟩
  obtain ⟨hB, hb2, hb8, hb12⟩ := cy k30 hB hb2 hb8 hb12
  refine af 7 rfl rfl rfl rfl (fun W' kk => aX (cs' := [_, _, _, _, _]) ay ah rfl (Bk.pK hb12 kk) rfl rfl) (af 7 rfl rfl rfl rfl (fun W' kk => aX (cs' := [_, _, _, _, _]) ay ah rfl (Bk.pK hb12 kk) rfl rfl) (bY [(30, _)] rfl rfl ⟨rfl, trivial⟩ rfl (fun w32 k32 => ?_)))
  obtain ⟨hB, hb2, hb8, hb12⟩ := cy k32 hB hb2 hb8 hb12
  refine (aV (vs := [_, _]) rfl (bm _ _ _ E8 (by decide) _)).mono ?_
  rintro _ w31 ⟨hh9, rfl, E9, k31⟩
  refine ⟨k31, nox, ?_⟩
  obtain ⟨hB, hb2, hb8, hb12⟩ := cy k31 hB hb2 hb8 hb12
  replace E9 : El hh9 (fpow a 1047552) := eH (n := 10) E9 rfl
  refine bY [(31, _), (32, _)] rfl rfl ⟨rfl, rfl, trivial⟩ rfl (fun w34 k34 => ?_)
  obtain ⟨hB, hb2, hb8, hb12⟩ := cy k34 hB hb2 hb8 hb12
  refine (aV (vs := [_, _]) rfl (cF _ _ _ _ E9 E8 _)).mono ?_
  rintro _ w33 ⟨hh10, rfl, E10, k33⟩
  refine ⟨k33, nox, ?_⟩
  obtain ⟨hB, hb2, hb8, hb12⟩ := cy k33 hB hb2 hb8 hb12
  replace E10 : El hh10 (fpow a 1048575) := dO E10 rfl
  refine cC (fun w35 k35 => ?_)
  obtain ⟨hB, hb2, hb8, hb12⟩ := cy k35 hB hb2 hb8 hb12
  intro b8 eb8 lb4 hb13 ds4 sp4
  have ge_b8 : w.heap.size ≤ b8 := Nat.le_trans gs4 eb8
  have ne_b2_b8 : b2 ≠ b8 := Nat.ne_of_lt (Nat.lt_of_lt_of_le lt11 eb8)
  have ne_b3_b8 : b3 ≠ b8 := Nat.ne_of_lt (Nat.lt_of_lt_of_le lt12 eb8)
  have ne_b7_b8 : b7 ≠ b8 := Nat.ne_of_lt (Nat.lt_of_lt_of_le lt13 eb8)
  refine bK (a6 (ak ah rfl rfl rfl ad hb13 rfl) ?_)
  rintro _ w36 ⟨hb14, k36, z10⟩
  replace hb2 := hb2.keep k36 (nm ne_b2_b8)
  replace hb8 := hb8.keep k36 (nm ne_b3_b8)
  replace hb12 := hb12.keep k36 (nm ne_b7_b8)
  replace hB := hB.new k36 (nw ge_b8)
  clear z10
  replace hb14 := cv (g := hh10) hb14
  refine aT (aS ?_)
  have gs5 := hB.size
  have lt14 := hb2.lt
  have lt15 := hb8.lt
  have lt16 := hb12.lt
  have lt17 := hb14.lt
  refine bJ 5 [0, 2, 1, 3] [1, 3] [] [(4, 41, [.int .u64 0, .int .u64 0, .int .u64 0, .int .u64 0, .int .u64 0])] mixed [(8, _), (7, _), (3, _), (2, _)] ⟨rfl, rfl, rfl, rfl, trivial⟩ (by decide +kernel) (by decide) (by decide) ?_ (fun x hx => by cases hx) rfl (fun w37 k37 => ?_)
  · simp only [List.forall_mem_cons]; exact ⟨⟨_, _, _, _, _, _, rfl, ah⟩, fun q hq => by cases hq⟩
  obtain ⟨hB, hb2, hb8, hb12, hb14⟩ := dg k37 hB hb2 hb8 hb12 hb14
  refine af 8 rfl rfl rfl rfl (fun W' kk => aX (cs' := [_, _, _, _, _]) ay ah rfl (Bk.pK hb14 kk) rfl rfl) (af 8 rfl rfl rfl rfl (fun W' kk => aX (cs' := [_, _, _, _, _]) ay ah rfl (Bk.pK hb14 kk) rfl rfl) (bY [(34, _)] rfl rfl ⟨rfl, trivial⟩ rfl (fun w39 k39 => ?_)))
  obtain ⟨hB, hb2, hb8, hb12, hb14⟩ := dg k39 hB hb2 hb8 hb12 hb14
  refine (aV (vs := [_, _]) rfl (bm _ _ _ E10 (by decide) _)).mono ?_
  rintro _ w38 ⟨hh11, rfl, E11, k38⟩
  refine ⟨k38, nox, ?_⟩
  obtain ⟨hB, hb2, hb8, hb12, hb14⟩ := dg k38 hB hb2 hb8 hb12 hb14
  replace E11 : El hh11 (fpow a 1099510579200) := eH (n := 20) E11 rfl
  refine bY [(35, _), (36, _)] rfl rfl ⟨rfl, rfl, trivial⟩ rfl (fun w41 k41 => ?_)
  obtain ⟨hB, hb2, hb8, hb12, hb14⟩ := dg k41 hB hb2 hb8 hb12 hb14
  refine (aV (vs := [_, _]) rfl (cF _ _ _ _ E11 E10 _)).mono ?_
  rintro _ w40 ⟨hh12, rfl, E12, k40⟩
  refine ⟨k40, nox, ?_⟩
  obtain ⟨hB, hb2, hb8, hb12, hb14⟩ := dg k40 hB hb2 hb8 hb12 hb14
  replace E12 : El hh12 (fpow a 1099511627775) := dO E12 rfl
  refine cC (fun w42 k42 => ?_)
  obtain ⟨hB, hb2, hb8, hb12, hb14⟩ := dg k42 hB hb2 hb8 hb12 hb14
  intro b9 eb9 lb5 hb15 ds5 sp5
  have ge_b9 : w.heap.size ≤ b9 := Nat.le_trans gs5 eb9
  have ne_b2_b9 : b2 ≠ b9 := Nat.ne_of_lt (Nat.lt_of_lt_of_le lt14 eb9)
  have ne_b3_b9 : b3 ≠ b9 := Nat.ne_of_lt (Nat.lt_of_lt_of_le lt15 eb9)
  have ne_b7_b9 : b7 ≠ b9 := Nat.ne_of_lt (Nat.lt_of_lt_of_le lt16 eb9)
  have ne_b8_b9 : b8 ≠ b9 := Nat.ne_of_lt (Nat.lt_of_lt_of_le lt17 eb9)
  refine bK (a6 (ak ah rfl rfl rfl ad hb15 rfl) ?_)
  rintro _ w43 ⟨hb16, k43, z11⟩
  replace hb2 := hb2.keep k43 (nm ne_b2_b9)
  replace hb8 := hb8.keep k43 (nm ne_b3_b9)
  replace hb12 := hb12.keep k43 (nm ne_b7_b9)
  replace hb14 := hb14.keep k43 (nm ne_b8_b9)
  replace hB := hB.new k43 (nw ge_b9)
  clear z11
  replace hb16 := cv (g := hh12) hb16
  refine aT (aS ?_)
  have gs6 := hB.size
  have lt18 := hb2.lt
  have lt19 := hb8.lt
  have lt20 := hb12.lt
  have lt21 := hb16.lt
  refine bJ 5 [0, 2, 1, 3] [1, 3] [] [(4, 41, [.int .u64 0, .int .u64 0, .int .u64 0, .int .u64 0, .int .u64 0])] mixed [(9, _), (7, _), (3, _), (2, _)] ⟨rfl, rfl, rfl, rfl, trivial⟩ (by decide +kernel) (by decide) (by decide) ?_ (fun x hx => by cases hx) rfl (fun w44 k44 => ?_)
  · simp only [List.forall_mem_cons]; exact ⟨⟨_, _, _, _, _, _, rfl, ah⟩, fun q hq => by cases hq⟩
  obtain ⟨hB, hb2, hb8, hb12, hb16⟩ := dg k44 hB hb2 hb8 hb12 hb16
  refine af 9 rfl rfl rfl rfl (fun W' kk => aX (cs' := [_, _, _, _, _]) ay ah rfl (Bk.pK hb16 kk) rfl rfl) (af 7 rfl rfl rfl rfl (fun W' kk => aX (cs' := [_, _, _, _, _]) ay ah rfl (Bk.pK hb12 kk) rfl rfl) (bY [(38, _)] rfl rfl ⟨rfl, trivial⟩ rfl (fun w46 k46 => ?_)))
  obtain ⟨hB, hb2, hb8, hb12, hb16⟩ := dg k46 hB hb2 hb8 hb12 hb16
  refine (aV (vs := [_, _]) rfl (bm _ _ _ E12 (by decide) _)).mono ?_
  rintro _ w45 ⟨hh13, rfl, E13, k45⟩
  refine ⟨k45, nox, ?_⟩
  obtain ⟨hB, hb2, hb8, hb12, hb16⟩ := dg k45 hB hb2 hb8 hb12 hb16
  replace E13 : El hh13 (fpow a 1125899906841600) := eH (n := 10) E13 rfl
  refine bY [(39, _), (40, _)] rfl rfl ⟨rfl, rfl, trivial⟩ rfl (fun w48 k48 => ?_)
  obtain ⟨hB, hb2, hb8, hb12, hb16⟩ := dg k48 hB hb2 hb8 hb12 hb16
  refine (aV (vs := [_, _]) rfl (cF _ _ _ _ E13 E8 _)).mono ?_
  rintro _ w47 ⟨hh14, rfl, E14, k47⟩
  refine ⟨k47, nox, ?_⟩
  obtain ⟨hB, hb2, hb8, hb12, hb16⟩ := dg k47 hB hb2 hb8 hb12 hb16
  replace E14 : El hh14 (fpow a 1125899906842623) := dO E14 rfl
  refine cC (fun w49 k49 => ?_)
  obtain ⟨hB, hb2, hb8, hb12, hb16⟩ := dg k49 hB hb2 hb8 hb12 hb16
  intro b10 eb10 lb6 hb17 ds6 sp6
  have ge_b10 : w.heap.size ≤ b10 := Nat.le_trans gs6 eb10
  have ne_b2_b10 : b2 ≠ b10 := Nat.ne_of_lt (Nat.lt_of_lt_of_le lt18 eb10)
  have ne_b3_b10 : b3 ≠ b10 := Nat.ne_of_lt (Nat.lt_of_lt_of_le lt19 eb10)
  have ne_b7_b10 : b7 ≠ b10 := Nat.ne_of_lt (Nat.lt_of_lt_of_le lt20 eb10)
  have ne_b9_b10 : b9 ≠ b10 := Nat.ne_of_lt (Nat.lt_of_lt_of_le lt21 eb10)
  refine bK (a6 (ak ah rfl rfl rfl ad hb17 rfl) ?_)
  rintro _ w50 ⟨hb18, k50, z12⟩
  replace hb2 := hb2.keep k50 (nm ne_b2_b10)
  replace hb8 := hb8.keep k50 (nm ne_b3_b10)
  replace hb12 := hb12.keep k50 (nm ne_b7_b10)
  replace hb16 := hb16.keep k50 (nm ne_b9_b10)
  replace hB := hB.new k50 (nw ge_b10)
  clear z12
  replace hb18 := cv (g := hh14) hb18
  refine aT (aS ?_)
  have gs7 := hB.size
  have lt22 := hb2.lt
  have lt23 := hb8.lt
  have lt24 := hb18.lt
  refine bJ 5 [0, 2, 1, 3] [1, 3] [] [(4, 41, [.int .u64 0, .int .u64 0, .int .u64 0, .int .u64 0, .int .u64 0])] mixed [(10, _), (3, _), (2, _)] ⟨rfl, rfl, rfl, trivial⟩ (by decide +kernel) (by decide) (by decide) ?_ (fun x hx => by cases hx) rfl (fun w51 k51 => ?_)
  · simp only [List.forall_mem_cons]; exact ⟨⟨_, _, _, _, _, _, rfl, ah⟩, fun q hq => by cases hq⟩
  obtain ⟨hB, hb2, hb8, hb18⟩ := cy k51 hB hb2 hb8 hb18
  refine af 10 rfl rfl rfl rfl (fun W' kk => aX (cs' := [_, _, _, _, _]) ay ah rfl (Bk.pK hb18 kk) rfl rfl) (af 10 rfl rfl rfl rfl (fun W' kk => aX (cs' := [_, _, _, _, _]) ay ah rfl (Bk.pK hb18 kk) rfl rfl) (bY [(42, _)] rfl rfl ⟨rfl, trivial⟩ rfl (fun w53 k53 => ?_)))
  obtain ⟨hB, hb2, hb8, hb18⟩ := cy k53 hB hb2 hb8 hb18
  refine (aV (vs := [_, _]) rfl (bm _ _ _ E14 (by decide) _)).mono ?_
  rintro _ w52 ⟨hh15, rfl, E15, k52⟩
  refine ⟨k52, nox, ?_⟩
  obtain ⟨hB, hb2, hb8, hb18⟩ := cy k52 hB hb2 hb8 hb18
  replace E15 : El hh15 (fpow a 1267650600228228275596796362752) := eH (n := 50) E15 rfl
  refine bY [(43, _), (44, _)] rfl rfl ⟨rfl, rfl, trivial⟩ rfl (fun w55 k55 => ?_)
  obtain ⟨hB, hb2, hb8, hb18⟩ := cy k55 hB hb2 hb8 hb18
  refine (aV (vs := [_, _]) rfl (cF _ _ _ _ E15 E14 _)).mono ?_
  rintro _ w54 ⟨hh16, rfl, E16, k54⟩
  refine ⟨k54, nox, ?_⟩
  obtain ⟨hB, hb2, hb8, hb18⟩ := cy k54 hB hb2 hb8 hb18
  replace E16 : El hh16 (fpow a 1267650600228229401496703205375) := dO E16 rfl
  refine cC (fun w56 k56 => ?_)
  obtain ⟨hB, hb2, hb8, hb18⟩ := cy k56 hB hb2 hb8 hb18
  intro b11 eb11 lb7 hb19 ds7 sp7
  have ge_b11 : w.heap.size ≤ b11 := Nat.le_trans gs7 eb11
  have ne_b2_b11 : b2 ≠ b11 := Nat.ne_of_lt (Nat.lt_of_lt_of_le lt22 eb11)
  have ne_b3_b11 : b3 ≠ b11 := Nat.ne_of_lt (Nat.lt_of_lt_of_le lt23 eb11)
  have ne_b10_b11 : b10 ≠ b11 := Nat.ne_of_lt (Nat.lt_of_lt_of_le lt24 eb11)
  refine bK (a6 (ak ah rfl rfl rfl ad hb19 rfl) ?_)
  rintro _ w57 ⟨hb20, k57, z13⟩
  replace hb2 := hb2.keep k57 (nm ne_b2_b11)
  replace hb8 := hb8.keep k57 (nm ne_b3_b11)
  replace hb18 := hb18.keep k57 (nm ne_b10_b11)
  replace hB := hB.new k57 (nw ge_b11)
  clear z13
  replace hb20 := cv (g := hh16) hb20
  refine aT (aS ?_)
  have gs8 := hB.size
  have lt25 := hb2.lt
  have lt26 := hb8.lt
  have lt27 := hb18.lt
  have lt28 := hb20.lt
  refine bJ 5 [0, 2, 1, 3] [1, 3] [] [(4, 41, [.int .u64 0, .int .u64 0, .int .u64 0, .int .u64 0, .int .u64 0])] mixed [(11, _), (10, _), (3, _), (2, _)] ⟨rfl, rfl, rfl, rfl, trivial⟩ (by decide +kernel) (by decide) (by decide) ?_ (fun x hx => by cases hx) rfl (fun w58 k58 => ?_)
  · simp only [List.forall_mem_cons]; exact ⟨⟨_, _, _, _, _, _, rfl, ah⟩, fun q hq => by cases hq⟩
  obtain ⟨hB, hb2, hb8, hb18, hb20⟩ := dg k58 hB hb2 hb8 hb18 hb20
  refine af 11 rfl rfl rfl rfl (fun W' kk => aX (cs' := [_, _, _, _, _]) ay ah rfl (Bk.pK hb20 kk) rfl rfl) (af 11 rfl rfl rfl rfl (fun W' kk => aX (cs' := [_, _, _, _, _]) ay ah rfl (Bk.pK hb20 kk) rfl rfl) (bY [(46, _)] rfl rfl ⟨rfl, trivial⟩ rfl (fun w60 k60 => ?_)))
  obtain ⟨hB, hb2, hb8, hb18, hb20⟩ := dg k60 hB hb2 hb8 hb18 hb20
  refine (aV (vs := [_, _]) rfl (bm _ _ _ E16 (by decide) _)).mono ?_
  rintro _ w59 ⟨hh17, rfl, E17, k59⟩
  refine ⟨k59, nox, ?_⟩
  obtain ⟨hB, hb2, hb8, hb18, hb20⟩ := dg k59 hB hb2 hb8 hb18 hb20
  replace E17 : El hh17 (fpow a 1606938044258990275541962092339894951921974764381296132096000) := eH (n := 100) E17 rfl
  refine bY [(47, _), (48, _)] rfl rfl ⟨rfl, rfl, trivial⟩ rfl (fun w62 k62 => ?_)
  obtain ⟨hB, hb2, hb8, hb18, hb20⟩ := dg k62 hB hb2 hb8 hb18 hb20
  refine (aV (vs := [_, _]) rfl (cF _ _ _ _ E17 E16 _)).mono ?_
  rintro _ w61 ⟨hh18, rfl, E18, k61⟩
  refine ⟨k61, nox, ?_⟩
  obtain ⟨hB, hb2, hb8, hb18, hb20⟩ := dg k61 hB hb2 hb8 hb18 hb20
  replace E18 : El hh18 (fpow a 1606938044258990275541962092341162602522202993782792835301375) := dO E18 rfl
  refine cC (fun w63 k63 => ?_)
  obtain ⟨hB, hb2, hb8, hb18, hb20⟩ := dg k63 hB hb2 hb8 hb18 hb20
  intro b12 eb12 lb8 hb21 ds8 sp8
  have ge_b12 : w.heap.size ≤ b12 := Nat.le_trans gs8 eb12
  have ne_b2_b12 : b2 ≠ b12 := Nat.ne_of_lt (Nat.lt_of_lt_of_le lt25 eb12)
  have ne_b3_b12 : b3 ≠ b12 := Nat.ne_of_lt (Nat.lt_of_lt_of_le lt26 eb12)
  have ne_b10_b12 : b10 ≠ b12 := Nat.ne_of_lt (Nat.lt_of_lt_of_le lt27 eb12)
  have ne_b11_b12 : b11 ≠ b12 := Nat.ne_of_lt (Nat.lt_of_lt_of_le lt28 eb12)
  refine bK (a6 (ak ah rfl rfl rfl ad hb21 rfl) ?_)
  rintro _ w64 ⟨hb22, k64, z14⟩
  replace hb2 := hb2.keep k64 (nm ne_b2_b12)
  replace hb8 := hb8.keep k64 (nm ne_b3_b12)
  replace hb18 := hb18.keep k64 (nm ne_b10_b12)
  replace hb20 := hb20.keep k64 (nm ne_b11_b12)
  replace hB := hB.new k64 (nw ge_b12)
  clear z14
  replace hb22 := cv (g := hh18) hb22
  refine aT (aS (bJ 6 [0, 2, 4, 1, 3, 5] [1, 3, 5] [b2] [] mixed [(12, _), (10, _), (3, _), (2, _)] ⟨rfl, rfl, rfl, rfl, trivial⟩ (by decide +kernel) (by decide) (by decide) ?_ (fun x hx => by simp only [List.mem_cons, List.not_mem_nil, or_false] at hx; have := hb2.lt; omega) rfl (fun w65 k65 => ?_)))
  · intro q hq; cases hq
  obtain ⟨hB, hb2, hb8, hb18, hb22⟩ := dg k65 hB hb2 hb8 hb18 hb22
  refine af 12 rfl rfl rfl rfl (fun W' kk => aX (cs' := [_, _, _, _, _]) ay ah rfl (Bk.keep hb22 kk (by simp only [List.mem_cons, List.not_mem_nil, or_false]; first | assumption | (apply Ne.symm; assumption) | omega)) rfl rfl) (af 10 rfl rfl rfl rfl (fun W' kk => aX (cs' := [_, _, _, _, _]) ay ah rfl (Bk.keep hb18 kk (by simp only [List.mem_cons, List.not_mem_nil, or_false]; first | assumption | (apply Ne.symm; assumption) | omega)) rfl rfl) (af 3 rfl rfl rfl rfl (fun W' kk => aX (cs' := [_, _, _, _, _]) ay ah rfl (Bk.keep hb8 kk (by simp only [List.mem_cons, List.not_mem_nil, or_false]; first | assumption | (apply Ne.symm; assumption) | omega)) rfl rfl) (bY [(50, _)] rfl rfl ⟨rfl, trivial⟩ rfl (fun w67 k67 => ?_))))
  obtain ⟨hB, hb2, hb8⟩ := cX k67 hB hb2 hb8
  refine (aV (vs := [_, _]) rfl (bm _ _ _ E18 (by decide) _)).mono ?_
  rintro _ w66 ⟨hh19, rfl, E19, k66⟩
  refine ⟨k66.weak, nox, ?_⟩
  obtain ⟨hB, hb2, hb8⟩ := cX k66 hB hb2 hb8
  replace E19 : El hh19 (fpow a 1809251394333065553493296640760748560207343510400633813116523624223735808000) := eH (n := 50) E19 rfl
  refine bY [(51, _), (52, _)] rfl rfl ⟨rfl, rfl, trivial⟩ rfl (fun w69 k69 => ?_)
  obtain ⟨hB, hb2, hb8⟩ := cX k69 hB hb2 hb8
  refine (aV (vs := [_, _]) rfl (cF _ _ _ _ E19 E14 _)).mono ?_
  rintro _ w68 ⟨hh20, rfl, E20, k68⟩
  refine ⟨k68.weak, nox, ?_⟩
  obtain ⟨hB, hb2, hb8⟩ := cX k68 hB hb2 hb8
  replace E20 : El hh20 (fpow a 1809251394333065553493296640760748560207343510400633813116524750123642650623) := dO E20 rfl
  refine pa_d0 [(2, _), (53, _)] rfl rfl ⟨rfl, rfl, trivial⟩ rfl (fun w70 k70 => ?_)
  obtain ⟨hB, hb2, hb8⟩ := cX k70 hB hb2 hb8
  refine (ak ah rfl rfl rfl ad hb2 rfl).mono ?_
  rintro _ w71 ⟨hb23, k71, z15⟩
  refine ⟨k71, ?_⟩
  replace hb8 := hb8.keep k71 (nm (Ne.symm ne_b2_b3))
  replace hB := hB.new k71 (nw ge_b2)
  clear z15
  replace hb23 := cv (g := hh20) hb23
  refine cC (fun w72 k72 => ?_)
  obtain ⟨hB, hb8, hb23⟩ := cX k72 hB hb8 hb23
  refine bK (a6 (ak ah rfl rfl rfl (by simp only [List.forall_mem_cons]; refine ⟨rfl, rfl, rfl, rfl, rfl, fun v hv => by cases hv⟩) hb8 rfl) ?_)
  rintro _ w73 ⟨hb24, k73, z16⟩
  replace hb23 := hb23.keep k73 (nm ne_b2_b3)
  replace hB := hB.new k73 (nw ge_b3)
  clear z16
  replace hb24 := cv (g := hh4) hb24
  refine aT (nN hfin Tryd.results65 rfl (ae ay ah hb23 rfl) rfl (ae ay ah hb24 rfl) ?_)
  exact ⟨hh20, hh4, rfl, E20, E4, hB⟩
theorem lm (f : Nat → Int) (a : Fp) (hf : El f a) (w : World) : Rets Tryd.prog 53 [.agg (iv .u64 5 f).toArray] w (fun v w' => ∃ h, v = .agg (iv .u64 5 h).toArray ∧ El h (inv a) ∧ Keep [] w w') := by
 have hB : Keep [] w w := Keep.refl _ _
 have hf1 := oi hf
 refine a7 Tryd.func53 rfl (by decide) Tryd.ntmps53 rfl (fun fin _ hfin => aS (aR (a9 (bc (cs := [.int .u64 (f 0), .int .u64 (f 1), .int .u64 (f 2), .int .u64 (f 3), .int .u64 (f 4)]) rfl rfl) rfl ?_)))
 rintro _ w1 ⟨b1, rfl, eb1, hb1, k1, z1⟩
 replace hB := hB.trans k1
 clear eb1 z1
 refine a9 (ab ah) rfl ?_
 rintro _ w2 ⟨b2, rfl, eb2, hb2, k2, z2⟩
 have ge_b2 : w.heap.size ≤ b2 := by have := hB.size; omega
 obtain ⟨hB, hb1⟩ := bT k2 hB hb1
 clear eb2 z2
 refine aT (aS (aR (aU (aX (cs' := [_, _, _, _, _]) ay ah rfl hb1 rfl rfl) rfl (a9 (aV (vs := [_]) rfl (gx _ _ hf1 _)) rfl ?_))))
 rintro _ w3 ⟨gg1, hh1, rfl, E1, G1, k3⟩
 obtain ⟨hB, hb2⟩ := bT k3 hB hb2
 refine ogm rfl rfl (aU (ar (vs := [_, _]) rfl rfl) rfl (aU (ar (vs := [_, _]) rfl rfl) rfl (a9 (ab ah) rfl ?_)))
 rintro _ w4 ⟨b3, rfl, eb3, hb3, k4, z3⟩
 have ge_b3 : w.heap.size ≤ b3 := by have := hB.size; omega
 have ne_b2_b3 : b2 ≠ b3 := by have := hb2.lt; omega
 obtain ⟨hB, hb2⟩ := bT k4 hB hb2
 clear eb3 z3
 refine a9 (ab ah) rfl ?_
 rintro _ w5 ⟨b4, rfl, eb4, hb4, k5, z4⟩
 have ge_b4 : w.heap.size ≤ b4 := by have := hB.size; omega
 have ne_b2_b4 : b2 ≠ b4 := by have := hb2.lt; omega
 have ne_b3_b4 : b3 ≠ b4 := by have := hb3.lt; omega
 obtain ⟨hB, hb2, hb3⟩ := cX k5 hB hb2 hb3
 clear eb4 z4
 refine a6 (ak ah rfl rfl rfl ad hb3 rfl) ?_
 rintro _ w6 ⟨hb5, k6, z5⟩
 replace hb2 := hb2.keep k6 (nm ne_b2_b3)
 replace hb4 := hb4.keep k6 (nm (Ne.symm ne_b3_b4))
 replace hB := hB.new k6 (nw ge_b3)
 clear z5
 replace hb5 := cv (g := gg1) hb5
 refine a6 (ak ah rfl rfl rfl ad hb4 rfl) ?_
 rintro _ w7 ⟨hb6, k7, z6⟩
 replace hb2 := hb2.keep k7 (nm ne_b2_b4)
 replace hb5 := hb5.keep k7 (nm ne_b3_b4)
 replace hB := hB.new k7 (nw ge_b4)
 clear z6
 replace hb6 := cv (g := hh1) hb6
 refine aT (aS (bz 4 [0, 2, 1, 3] [1, 3] [] mixed [(3, _), (4, _), (2, _)] ⟨rfl, rfl, rfl, trivial⟩ (by decide +kernel) rfl (fun w8 k8 => ?_)))
 obtain ⟨hB, hb2, hb5, hb6⟩ := cy k8 hB hb2 hb5 hb6
 refine ao 3 rfl rfl rfl rfl (fun W' kk => aX (cs' := [_, _, _, _, _]) ay ah rfl (Bk.pK hb5 kk) rfl rfl) (ao 4 rfl rfl rfl rfl (fun W' kk => aX (cs' := [_, _, _, _, _]) ay ah rfl (Bk.pK hb6 kk) rfl rfl) (bx [(10, _)] rfl rfl ⟨rfl, trivial⟩ rfl (aV (vs := [_, _]) rfl (bm _ _ _ E1 (by decide) _)) ?_))
 rintro _ w9 ⟨hh2, rfl, E2, k9⟩
 refine ⟨k9, ?_⟩
 obtain ⟨hB, hb2⟩ := bT k9 hB hb2
 replace E2 : El hh2 (fpow a 57896044618658097711785492504343953926634992332820282019728792003956564819936) := eH (n := 5) E2 rfl
 refine bx [(11, _), (12, _)] rfl rfl ⟨rfl, rfl, trivial⟩ rfl (aV (vs := [_, _]) rfl (cF _ _ _ _ E2 G1 _)) ?_
 rintro _ w10 ⟨hh3, rfl, E3, k10⟩
 refine ⟨k10, ?_⟩
 obtain ⟨hB, hb2⟩ := bT k10 hB hb2
 replace E3 : El hh3 (fpow a 57896044618658097711785492504343953926634992332820282019728792003956564819947) := dO E3 rfl
 refine cS (a6 (ak ah rfl rfl rfl ad hb2 rfl) ?_)
 rintro _ w11 ⟨hb7, k11, z7⟩
 replace hB := hB.new k11 (nw ge_b2)
 clear z7
 replace hb7 := cv (g := hh3) hb7
 refine aT (bP hfin Tryd.results53 rfl (ae ay ah hb7 rfl)  ?_)
 exact ⟨hh3, rfl, E3, hB⟩
theorem lG (f : Nat → Int) (a : Fp) (hf : El f a) (w : World) : Rets Tryd.prog 69 [.agg (iv .u64 5 f).toArray] w (fun v w' => ∃ h, v = .agg (iv .u64 5 h).toArray ∧ El h (fpow a 7237005577332262213973186563042994240829374041602535252466099000494570602494) ∧ Keep [] w w') := by
 have hB : Keep [] w w := Keep.refl _ _
 have hf1 := oi hf
 refine a7 Tryd.func69 rfl (by decide) Tryd.ntmps69 rfl (fun fin _ hfin => aS (aR (a9 (bc (cs := [.int .u64 (f 0), .int .u64 (f 1), .int .u64 (f 2), .int .u64 (f 3), .int .u64 (f 4)]) rfl rfl) rfl ?_)))
 rintro _ w1 ⟨b1, rfl, eb1, hb1, k1, z1⟩
 replace hB := hB.trans k1
 clear eb1 z1
 refine a9 (ab ah) rfl ?_
 rintro _ w2 ⟨b2, rfl, eb2, hb2, k2, z2⟩
 have ge_b2 : w.heap.size ≤ b2 := by have := hB.size; omega
 obtain ⟨hB, hb1⟩ := bT k2 hB hb1
 clear eb2 z2
 refine aT (aS (aR (aU (aX (cs' := [_, _, _, _, _]) ay ah rfl hb1 rfl rfl) rfl (a9 (aV (vs := [_]) rfl (gx _ _ hf1 _)) rfl ?_))))
 rintro _ w3 ⟨gg1, hh1, rfl, E1, G1, k3⟩
 obtain ⟨hB, hb1, hb2⟩ := cX k3 hB hb1 hb2
 refine ogm rfl rfl (aU (ar (vs := [_, _]) rfl rfl) rfl (aU (ar (vs := [_, _]) rfl rfl) rfl (a9 (ab ah) rfl ?_)))
 rintro _ w4 ⟨b3, rfl, eb3, hb3, k4, z3⟩
 have ge_b3 : w.heap.size ≤ b3 := by have := hB.size; omega
 have ne_b1_b3 : b1 ≠ b3 := by have := hb1.lt; omega
 have ne_b2_b3 : b2 ≠ b3 := by have := hb2.lt; omega
 obtain ⟨hB, hb1, hb2⟩ := cX k4 hB hb1 hb2
 clear eb3 z3
 refine a9 (ab ah) rfl ?_
 rintro _ w5 ⟨b4, rfl, eb4, hb4, k5, z4⟩
 have ge_b4 : w.heap.size ≤ b4 := by have := hB.size; omega
 have ne_b1_b4 : b1 ≠ b4 := by have := hb1.lt; omega
 have ne_b2_b4 : b2 ≠ b4 := by have := hb2.lt; omega
 have ne_b3_b4 : b3 ≠ b4 := by have := hb3.lt; omega
 obtain ⟨hB, hb1, hb2, hb3⟩ := cy k5 hB hb1 hb2 hb3
 clear eb4 z4
 refine a6 (ak ah rfl rfl rfl ad hb3 rfl) ?_
 rintro _ w6 ⟨hb5, k6, z5⟩
 replace hb1 := hb1.keep k6 (nm ne_b1_b3)
 replace hb2 := hb2.keep k6 (nm ne_b2_b3)
 replace hb4 := hb4.keep k6 (nm (Ne.symm ne_b3_b4))
 replace hB := hB.new k6 (nw ge_b3)
 clear z5
 replace hb5 := cv (g := gg1) hb5
 refine a6 (ak ah rfl rfl rfl ad hb4 rfl) ?_
 rintro _ w7 ⟨hb6, k7, z6⟩
 replace hb1 := hb1.keep k7 (nm ne_b1_b4)
 replace hb2 := hb2.keep k7 (nm ne_b2_b4)
 replace hb5 := hb5.keep k7 (nm ne_b3_b4)
 replace hB := hB.new k7 (nw ge_b4)
 clear z6
 replace hb6 := cv (g := hh1) hb6
 refine aT (aS (bz 5 [0, 2, 1, 3, 4] [1, 3, 4] [] mixed [(3, _), (1, _), (2, _)] ⟨rfl, rfl, rfl, trivial⟩ (by decide +kernel) rfl (fun w8 k8 => ?_)))
 obtain ⟨hB, hb1, hb2, hb5⟩ := cy k8 hB hb1 hb2 hb5
 refine ao 3 rfl rfl rfl rfl (fun W' kk => aX (cs' := [_, _, _, _, _]) ay ah rfl (Bk.pK hb5 kk) rfl rfl) (ao 1 rfl rfl rfl rfl (fun W' kk => aX (cs' := [_, _, _, _, _]) ay ah rfl (Bk.pK hb1 kk) rfl rfl) (bx [(10, _)] rfl rfl ⟨rfl, trivial⟩ rfl (aV (vs := [_, _]) rfl (bm _ _ _ E1 (by decide) _)) ?_))
 rintro _ w9 ⟨hh2, rfl, E2, k9⟩
 refine ⟨k9, ?_⟩
 obtain ⟨hB, hb2⟩ := bT k9 hB hb2
 replace E2 : El hh2 (fpow a 3618502788666131106986593281521497120414687020801267626233049500247285301246) := eH (n := 1) E2 rfl
 refine bx [(11, _), (12, _)] rfl rfl ⟨rfl, rfl, trivial⟩ rfl (aV (vs := [_, _]) rfl (cF _ _ _ _ E2 hf1 _)) ?_
 rintro _ w10 ⟨hh3, rfl, E3, k10⟩
 refine ⟨k10, ?_⟩
 obtain ⟨hB, hb2⟩ := bT k10 hB hb2
 replace E3 : El hh3 (fpow a 3618502788666131106986593281521497120414687020801267626233049500247285301247) := dO E3 rfl
 refine bx [(13, _)] rfl rfl ⟨rfl, trivial⟩ rfl (aV (vs := [_, _]) rfl (bm _ _ _ E3 (by decide) _)) ?_
 rintro _ w11 ⟨hh4, rfl, E4, k11⟩
 refine ⟨k11, ?_⟩
 obtain ⟨hB, hb2⟩ := bT k11 hB hb2
 replace E4 : El hh4 (fpow a 7237005577332262213973186563042994240829374041602535252466099000494570602494) := eH (n := 1) E4 rfl
 refine cS (a6 (ak ah rfl rfl rfl ad hb2 rfl) ?_)
 rintro _ w12 ⟨hb7, k12, z7⟩
 replace hB := hB.new k12 (nw ge_b2)
 clear z7
 replace hb7 := cv (g := hh4) hb7
 refine aT (bP hfin Tryd.results69 rfl (ae ay ah hb7 rfl)  ?_)
 exact ⟨hh4, rfl, E4, hB⟩
theorem ku (w : World) : Rets Tryd.prog 71 [] w (fun v w' => ∃ h, v = .agg (iv .u64 5 h).toArray ∧ El h (fpow 2 14474011154664524427946373126085988481658748083205070504932198000989141204987) ∧ Keep [] w w') := by
 have hB : Keep [] w w := Keep.refl _ _
 have hf1 : El (vecN [2, 0, 0, 0, 0]) (fpow 2 1) := el_two
 refine a7 Tryd.func71 rfl (by decide) Tryd.ntmps71 rfl (fun fin _ hfin => aS (aR (a9 (ab ah) rfl ?_)))
 rintro _ w1 ⟨b1, rfl, eb1, hb1, k1, z1⟩
 have ge_b1 : w.heap.size ≤ b1 := by have := hB.size; omega
 replace hB := hB.trans k1
 clear eb1 z1
 refine aT (aS (aR (aU (cx (idx := [0]) (xs := [.const (.int .u64 (2))]) (vs := [_]) (css := [[.int .u64 2]]) (out := [.int .u64 2, .int .u64 0, .int .u64 0, .int .u64 0, .int .u64 0]) aA aY ah (cW 5 1) rfl rfl ⟨rfl, trivial⟩ rfl rfl) rfl (a9 (ab ah) rfl ?_))))
 rintro _ w2 ⟨b2, rfl, eb2, hb2, k2, z2⟩
 have ge_b2 : w.heap.size ≤ b2 := by have := hB.size; omega
 have ne_b1_b2 : b1 ≠ b2 := by have := hb1.lt; omega
 obtain ⟨hB, hb1⟩ := bT k2 hB hb1
 clear eb2 z2
 refine a6 (ak ah rfl rfl rfl (by simp only [List.forall_mem_cons]; refine ⟨rfl, rfl, rfl, rfl, rfl, fun v hv => by cases hv⟩) hb2 rfl) ?_
 rintro _ w3 ⟨hb3, k3, z3⟩
 replace hb1 := hb1.keep k3 (nm ne_b1_b2)
 replace hB := hB.new k3 (nw ge_b2)
 clear z3
 replace hb3 : Bk w3 b2 _ [.int .u64 2, .int .u64 0, .int .u64 0, .int .u64 0, .int .u64 0] := hb3
 refine aT (aS (aR (aU (aX (cs' := [_, _, _, _, _]) ay ah rfl hb3 rfl rfl) rfl (a9 (aV (vs := [_]) rfl (gx _ _ hf1 _)) rfl ?_))))
 rintro _ w4 ⟨gg1, hh1, rfl, E1, G1, k4⟩
 obtain ⟨hB, hb1, hb3⟩ := cX k4 hB hb1 hb3
 refine ogm rfl rfl (aU (ar (vs := [_, _]) rfl rfl) rfl (aU (ar (vs := [_, _]) rfl rfl) rfl (a9 (ab ah) rfl ?_)))
 rintro _ w5 ⟨b3, rfl, eb3, hb4, k5, z4⟩
 have ge_b3 : w.heap.size ≤ b3 := by have := hB.size; omega
 have ne_b1_b3 : b1 ≠ b3 := by have := hb1.lt; omega
 have ne_b2_b3 : b2 ≠ b3 := by have := hb3.lt; omega
 obtain ⟨hB, hb1, hb3⟩ := cX k5 hB hb1 hb3
 clear eb3 z4
 refine a9 (ab ah) rfl ?_
 rintro _ w6 ⟨b4, rfl, eb4, hb5, k6, z5⟩
 have ge_b4 : w.heap.size ≤ b4 := by have := hB.size; omega
 have ne_b1_b4 : b1 ≠ b4 := by have := hb1.lt; omega
 have ne_b2_b4 : b2 ≠ b4 := by have := hb3.lt; omega
 have ne_b3_b4 : b3 ≠ b4 := by have := hb4.lt; omega
 obtain ⟨hB, hb1, hb3, hb4⟩ := cy k6 hB hb1 hb3 hb4
 clear eb4 z5
 refine a6 (ak ah rfl rfl rfl ad hb4 rfl) ?_
 rintro _ w7 ⟨hb6, k7, z6⟩
 replace hb1 := hb1.keep k7 (nm ne_b1_b3)
 replace hb3 := hb3.keep k7 (nm ne_b2_b3)
 replace hb5 := hb5.keep k7 (nm (Ne.symm ne_b3_b4))
 replace hB := hB.new k7 (nw ge_b3)
 clear z6
 replace hb6 := cv (g := gg1) hb6
 refine a6 (ak ah rfl rfl rfl ad hb5 rfl) ?_
 rintro _ w8 ⟨hb7, k8, z7⟩
 replace hb1 := hb1.keep k8 (nm ne_b1_b4)
 replace hb3 := hb3.keep k8 (nm ne_b2_b4)
 replace hb6 := hb6.keep k8 (nm ne_b3_b4)
 replace hB := hB.new k8 (nw ge_b4)
 clear z7
 replace hb7 := cv (g := hh1) hb7
 refine aT (aS (bz 8 [0, 2, 3, 4, 1, 5, 6, 7] [1, 5, 6, 7] [] mixed [(2, _), (1, _), (0, _)] ⟨rfl, rfl, rfl, trivial⟩ (by decide +kernel) rfl (fun w9 k9 => ?_)))
 obtain ⟨hB, hb1, hb3, hb6⟩ := cy k9 hB hb1 hb3 hb6
 refine ao 2 rfl rfl rfl rfl (fun W' kk => aX (cs' := [_, _, _, _, _]) ay ah rfl (Bk.pK hb6 kk) rfl rfl) (ao 1 rfl rfl rfl rfl (fun W' kk => aX (cs' := [_, _, _, _, _]) ay ah rfl (Bk.pK hb3 kk) rfl rfl) (ao 1 rfl rfl rfl rfl (fun W' kk => aX (cs' := [_, _, _, _, _]) ay ah rfl (Bk.pK hb3 kk) rfl rfl) (ao 1 rfl rfl rfl rfl (fun W' kk => aX (cs' := [_, _, _, _, _]) ay ah rfl (Bk.pK hb3 kk) rfl rfl) (bx [(10, _)] rfl rfl ⟨rfl, trivial⟩ rfl (aV (vs := [_, _]) rfl (bm _ _ _ E1 (by decide) _)) ?_))))
 rintro _ w10 ⟨hh2, rfl, E2, k10⟩
 refine ⟨k10, ?_⟩
 obtain ⟨hB, hb1⟩ := bT k10 hB hb1
 replace E2 : El hh2 (fpow 2 14474011154664524427946373126085988481658748083205070504932198000989141204984) := eH (n := 3) E2 rfl
 refine bx [(13, _), (14, _)] rfl rfl ⟨rfl, rfl, trivial⟩ rfl (aV (vs := [_, _]) rfl (cF _ _ _ _ hf1 hf1 _)) ?_
 rintro _ w11 ⟨hh3, rfl, E3, k11⟩
 refine ⟨k11, ?_⟩
 obtain ⟨hB, hb1⟩ := bT k11 hB hb1
 replace E3 : El hh3 (fpow 2 2) := dO E3 rfl
 refine bx [(12, _), (15, _)] rfl rfl ⟨rfl, rfl, trivial⟩ rfl (aV (vs := [_, _]) rfl (cF _ _ _ _ hf1 E3 _)) ?_
 rintro _ w12 ⟨hh4, rfl, E4, k12⟩
 refine ⟨k12, ?_⟩
 obtain ⟨hB, hb1⟩ := bT k12 hB hb1
 replace E4 : El hh4 (fpow 2 3) := dO E4 rfl
 refine bx [(11, _), (16, _)] rfl rfl ⟨rfl, rfl, trivial⟩ rfl (aV (vs := [_, _]) rfl (cF _ _ _ _ E2 E4 _)) ?_
 rintro _ w13 ⟨hh5, rfl, E5, k13⟩
 refine ⟨k13, ?_⟩
 obtain ⟨hB, hb1⟩ := bT k13 hB hb1
 replace E5 : El hh5 (fpow 2 14474011154664524427946373126085988481658748083205070504932198000989141204987) := dO E5 rfl
 refine cS (a6 (ak ah rfl rfl rfl ad hb1 rfl) ?_)
 rintro _ w14 ⟨hb8, k14, z8⟩
 replace hB := hB.new k14 (nw ge_b1)
 clear z8
 replace hb8 := cv (g := hh5) hb8
 refine aT (aW [(0, _)] ⟨rfl, trivial⟩ (bP hfin Tryd.results71 rfl (ae ay ah hb8 rfl)  ?_))
 exact ⟨hh5, rfl, E5, hB⟩
theorem jU (v : Value) (xs : List UInt8) (w : World) (hv : RdB w v xs) (hx : xs.length = 32) : Rets Tryd.prog 56 [v] w (fun v w' => ∃ h, v = .agg (iv .u64 5 h).toArray ∧ El h (fp (leI xs)) ∧ Keep [] w w') := by
 have hB : Keep [] w w := Keep.refl _ _
 refine a7 Tryd.func56 rfl (by decide) Tryd.ntmps56 rfl (fun fin _ hfin => aS (aR (a9 (ab ah) rfl ?_)))
 rintro _ w1 ⟨b1, rfl, eb1, hb1, k1, z1⟩
 have ge_b1 : w.heap.size ≤ b1 := by have := hB.size; omega
 replace hB := hB.trans k1
 clear eb1 z1
 refine aT (aS (aR (a9 (ab gd) rfl ?_)))
 rintro _ w2 ⟨b2, rfl, eb2, hb2, k2, z2⟩
 have ge_b2 : w.heap.size ≤ b2 := by have := hB.size; omega
 have ne_b1_b2 : b1 ≠ b2 := by have := hb1.lt; omega
 obtain ⟨hB, hb1⟩ := bT k2 hB hb1
 clear eb2 z2
 refine aT (aS (aS (aR (ogm rfl rfl (aT (a5 ?_))))))
 replace hb2 : Bk w2 b2 91 (iv .u64 4 (fun _ => 0)) := hb2
 refine bi (Γ := Nat × (Nat → Int)) (fun ⟨i, g⟩ => [(0, v), (2, .pointer (some ⟨b1, 0, none⟩)), (3, .pointer (some ⟨b2, 0, none⟩)), (6, .int .i64 (i : Int))]) (fun ⟨i, g⟩ W => i ≤ 32 ∧ GetI xs g i ∧ Bk W b1 41 [.int .u64 0, .int .u64 0, .int .u64 0, .int .u64 0, .int .u64 0] ∧ Bk W b2 91 (iv .u64 4 g) ∧ Keep [] w W) (fun ⟨i, g⟩ => 32 - i) ⟨0, _⟩ ⟨rfl, rfl, rfl, rfl, trivial⟩ (⟨by decide, hQ xs, hb1, hb2, hB⟩) ?_
 rintro ⟨i, g⟩ w3 ⟨hi0, hI, hbx2, hbx3, hB⟩
 refine aW [(0, v), (2, .pointer (some ⟨b1, 0, none⟩)), (3, .pointer (some ⟨b2, 0, none⟩)), (6, .int .i64 (i : Int))] ⟨rfl, rfl, rfl, rfl, trivial⟩ (aS (aR (aU (bW rfl rfl) rfl (aT (aS (bo rfl (fun hc1 => ?_) (fun hc1 => ?_)))))))
 ·
  refine a8 (aS (a5 (aS (aR (ogm rfl rfl (oga rfl rfl (aT (bf 14 mixed (by decide +kernel) (fun w4 k3 => ?_)))))))))
  obtain ⟨hB, hbx2, hbx3⟩ := cX k3 hB hbx2 hbx3
  refine ac (ax rfl) rfl (ac (eg rfl rfl (by omega)) rfl (ac (ap (i / 8) aG aY rfl rfl (by omega) (by omega)) rfl (bk (e' := g (i / 8)) (lo := 0) (hi := 18446744073709551615) (aZ ai rfl hbx3 (bO (by omega))) (rfl) ((hI.2.1 _ (by omega))) rfl (fun z3 h1 r1 => ac (ax rfl) rfl (ac (ax rfl) rfl (ac (dV aB cZ rfl (by first | assumption | exact Own.rd ‹_› | exact Rd.pK ‹_› hB | exact Own.rd (Own.pK ‹_› hB)) rfl (by omega)) rfl (bk (e' := gb xs (i : Int)) (lo := 0) (hi := 255) (d7 j4 rfl (hv.pK hB) (by omega)) (rfl) ((cc xs _)) rfl (fun z4 h2 r2 => bk (e' := z4) (lo := 0) (hi := 255) (gC (by rw [aK]; rfl) aJ rfl) (am r2 rfl) (r2) rfl (fun z5 h3 r3 => ac (ax rfl) rfl (ac (e9 rfl rfl (by omega)) rfl (ac (gN rfl rfl (by omega)) rfl (ac (ip rfl rfl (by constructor <;> (try simp only [IntKind.bits]) <;> omega)) rfl ?_))))))))))))
  refine ac (du rfl rfl) rfl (cB (aU (ap (i / 8) aG aY rfl rfl (by omega) (by omega)) rfl (a6 (eV (v := (bits .or .u64 z3 (IntKind.u64.wrap (z5 * 2 ^ ((8 * ((i : Int) % 8)) : Int).toNat)))) aY rfl rfl hbx3 (by omega)) ?_)))
  rintro _ w5 ⟨hb3, k4, z6⟩
  replace hbx2 := hbx2.keep k4 (nm ne_b1_b2)
  replace hB := hB.new k4 (nw ge_b2)
  clear z6
  refine aT (aW [(0, _), (2, _), (3, _), (6, _)] ⟨rfl, rfl, rfl, rfl, trivial⟩ (bg (aR (aU (cI rfl rfl (by omega)) rfl (ogm rfl rfl (aT (cA (Γ := Nat × (Nat → Int)) ⟨i + 1, _⟩ ⟨rfl, rfl, rfl, rfl, trivial⟩ (by (try dsimp only); omega) (⟨by omega, kL hI (by omega) (by omega) h1 (by have a := h2; have b := h3; unfold Eqn at *; rw [b, a]) rfl rfl, hbx2, hb3, hB⟩))))))))
 ·
  refine bE rfl (aS ?_)
  obtain ⟨hW, rg0, rg1, rg2, rg3⟩ := get4 hI (by omega) hx
  replace hbx3 : Bk w3 b2 91 [.int .u64 (g 0), .int .u64 (g 1), .int .u64 (g 2), .int .u64 (g 3)] := hbx3
  generalize g 0 = wd0 at hbx3 hW rg0
  generalize g 1 = wd1 at hbx3 hW rg1
  generalize g 2 = wd2 at hbx3 hW rg2
  generalize g 3 = wd3 at hbx3 hW rg3
  refine aR (aU (aa aG aY rfl rfl (by decide)) rfl (aU (aZ ai rfl hbx3 rfl) rfl (ag (e' := wd0 % 2251799813685248) (lo := 0) (hi := 2251799813685247) (cY rfl rfl) (bd 51 rg0 rfl rfl rfl rfl rfl rfl) (In.wk (au _ (by decide)) rfl) rfl (fun z7 h4 r4 => aU (aa aG aY rfl rfl (by decide)) rfl (aU (aZ ai rfl hbx3 rfl) rfl (ag (e' := wd0 / 2251799813685248) (lo := 0) (hi := 8191) (bl (m := 2251799813685248) rfl rfl (by decide) rfl) (rfl) (In.wk (bB rg0 (by decide)) rfl) rfl (fun z8 h5 r5 => aU (aa aG aY rfl rfl (by decide)) rfl (aU (aZ ai rfl hbx3 rfl) rfl (ag (e' := (wd1 * 8192) % 18446744073709551616) (lo := 0) (hi := 18446744073709551615) (dB (m := 8192) rfl rfl (by decide) rfl) (cH rfl _) (In.wk (au _ (by decide)) rfl) rfl (fun z9 h6 r6 => ?_))))))))))
  refine ag (e' := z8 + z9) (lo := 0) (hi := 18446744073709551615) (du rfl rfl) (bq 13 (m := 8192) r6 rfl r5 rfl rfl rfl rfl (cN h6 (bN _ (by decide))) rfl rfl) (In.wk (ew (k := .u64) rfl (bq 13 (m := 8192) r6 rfl r5 rfl rfl rfl rfl (cN h6 (bN _ (by decide))) rfl rfl)) rfl) rfl (fun z10 h7 r7 => ag (e' := z10 % 2251799813685248) (lo := 0) (hi := 2251799813685247) (cY rfl rfl) (bd 51 r7 rfl rfl rfl rfl rfl rfl) (In.wk (au _ (by decide)) rfl) rfl (fun z11 h8 r8 => aU (aa aG aY rfl rfl (by decide)) rfl (aU (aZ ai rfl hbx3 rfl) rfl (ag (e' := wd1 / 274877906944) (lo := 0) (hi := 67108863) (bl (m := 274877906944) rfl rfl (by decide) rfl) (rfl) (In.wk (bB rg1 (by decide)) rfl) rfl (fun z12 h9 r9 => aU (aa aG aY rfl rfl (by decide)) rfl (aU (aZ ai rfl hbx3 rfl) rfl (ag (e' := (wd2 * 67108864) % 18446744073709551616) (lo := 0) (hi := 18446744073709551615) (dB (m := 67108864) rfl rfl (by decide) rfl) (cH rfl _) (In.wk (au _ (by decide)) rfl) rfl (fun z13 h10 r10 => ag (e' := z12 + z13) (lo := 0) (hi := 18446744073709551615) (du rfl rfl) (bq 26 (m := 67108864) r10 rfl r9 rfl rfl rfl rfl (cN h10 (bN _ (by decide))) rfl rfl) (In.wk (ew (k := .u64) rfl (bq 26 (m := 67108864) r10 rfl r9 rfl rfl rfl rfl (cN h10 (bN _ (by decide))) rfl rfl)) rfl) rfl (fun z14 h11 r11 => ?_)))))))))
  refine ag (e' := z14 % 2251799813685248) (lo := 0) (hi := 2251799813685247) (cY rfl rfl) (bd 51 r11 rfl rfl rfl rfl rfl rfl) (In.wk (au _ (by decide)) rfl) rfl (fun z15 h12 r12 => aU (aa aG aY rfl rfl (by decide)) rfl (aU (aZ ai rfl hbx3 rfl) rfl (ag (e' := wd2 / 33554432) (lo := 0) (hi := 549755813887) (bl (m := 33554432) rfl rfl (by decide) rfl) (rfl) (In.wk (bB rg2 (by decide)) rfl) rfl (fun z16 h13 r13 => aU (aa aG aY rfl rfl (by decide)) rfl (aU (aZ ai rfl hbx3 rfl) rfl (ag (e' := (wd3 * 549755813888) % 18446744073709551616) (lo := 0) (hi := 18446744073709551615) (dB (m := 549755813888) rfl rfl (by decide) rfl) (cH rfl _) (In.wk (au _ (by decide)) rfl) rfl (fun z17 h14 r14 => ag (e' := z16 + z17) (lo := 0) (hi := 18446744073709551615) (du rfl rfl) (bq 39 (m := 549755813888) r14 rfl r13 rfl rfl rfl rfl (cN h14 (bN _ (by decide))) rfl rfl) (In.wk (ew (k := .u64) rfl (bq 39 (m := 549755813888) r14 rfl r13 rfl rfl rfl rfl (cN h14 (bN _ (by decide))) rfl rfl)) rfl) rfl (fun z18 h15 r15 => ag (e' := z18 % 2251799813685248) (lo := 0) (hi := 2251799813685247) (cY rfl rfl) (bd 51 r15 rfl rfl rfl rfl rfl rfl) (In.wk (au _ (by decide)) rfl) rfl (fun z19 h16 r16 => ?_)))))))))
  refine aU (aa aG aY rfl rfl (by decide)) rfl (aU (aZ ai rfl hbx3 rfl) rfl (ag (e' := wd3 / 4096) (lo := 0) (hi := 4503599627370495) (bl (m := 4096) rfl rfl (by decide) rfl) (rfl) (In.wk (bB rg3 (by decide)) rfl) rfl (fun z20 h17 r17 => ag (e' := z20 % 2251799813685248) (lo := 0) (hi := 2251799813685247) (cY rfl rfl) (bd 51 r17 rfl rfl rfl rfl rfl rfl) (In.wk (au _ (by decide)) rfl) rfl (fun z21 h18 r18 => aU (cx (idx := [0, 1, 2, 3, 4]) (xs := [.tmp 27, .tmp 35, .tmp 43, .tmp 51, .tmp 55]) (vs := [_, _, _, _, _]) (css := [[.int .u64 z7], [.int .u64 z11], [.int .u64 z15], [.int .u64 z19], [.int .u64 z21]]) (out := [.int .u64 z7, .int .u64 z11, .int .u64 z15, .int .u64 z19, .int .u64 z21]) aA aY ah (cW 5 1) rfl rfl ⟨rfl, rfl, rfl, rfl, rfl, trivial⟩ rfl rfl) rfl (a9 (ab ah) rfl ?_)))))
  rintro _ w6 ⟨b3, rfl, eb3, hb4, k5, z22⟩
  have ge_b3 : w.heap.size ≤ b3 := by have := hB.size; omega
  have ne_b1_b3 : b1 ≠ b3 := by have := hbx2.lt; omega
  have ne_b2_b3 : b2 ≠ b3 := by have := hbx3.lt; omega
  obtain ⟨hB, hbx2, hbx3⟩ := cX k5 hB hbx2 hbx3
  clear eb3 z22
  refine a6 (ak ah rfl rfl rfl (by simp only [List.forall_mem_cons]; refine ⟨rfl, rfl, rfl, rfl, rfl, fun v hv => by cases hv⟩) hb4 rfl) ?_
  rintro _ w7 ⟨hb5, k6, z23⟩
  replace hbx2 := hbx2.keep k6 (nm ne_b1_b3)
  replace hbx3 := hbx3.keep k6 (nm ne_b2_b3)
  replace hB := hB.new k6 (nw ge_b3)
  clear z23
  replace hb5 : Bk w7 b3 _ [.int .u64 z7, .int .u64 z11, .int .u64 z15, .int .u64 z19, .int .u64 z21] := hb5
  refine aT (aS (aR (aU (aa aA aY rfl rfl (by decide)) rfl (aU (aZ ai rfl hb5 rfl) rfl (aU (aa aG aY rfl rfl (by decide)) rfl (aU (aZ ai rfl hbx3 rfl) rfl (ag (e' := wd3 / 9223372036854775808) (lo := 0) (hi := 1) (bl (m := 9223372036854775808) rfl rfl (by decide) rfl) (rfl) (In.wk (bB rg3 (by decide)) rfl) rfl (fun z24 h19 r19 => ag (e' := 19 * z24) (lo := 0) (hi := 19) (dZ rfl rfl) (am (co r19 (by decide)) rfl) (In.wk (co r19 (by decide)) rfl) rfl (fun z25 h20 r20 => ag (e' := z7 + z25) (lo := 0) (hi := 2251799813685266) (an rfl rfl) (am (al r4 r20) rfl) (In.wk (al r4 r20) rfl) rfl (fun z26 h21 r21 => aU (aa aA aY rfl rfl (by decide)) rfl (a6 (cD aY rfl rfl rfl hb5 rfl) ?_)))))))))))
  rintro _ w8 ⟨hb6, k7, z27⟩
  replace hbx2 := hbx2.keep k7 (nm ne_b1_b3)
  replace hB := hB.new k7 (nw ge_b3)
  clear z27
  replace hb6 : Bk w8 b3 _ [.int .u64 z26, .int .u64 z11, .int .u64 z15, .int .u64 z19, .int .u64 z21] := hb6
  refine aT (aW [(2, _), (5, _)] ⟨rfl, rfl, trivial⟩ (aS (aR (aU (aX (cs' := [_, _, _, _, _]) ay ah rfl hb6 rfl rfl) rfl (a9 (aV (vs := [_]) rfl (d9 (vecN [z26, z11, z15, z19, z21]) (In.wk r21 rfl) (In.wk r8 rfl) (In.wk r12 rfl) (In.wk r16 rfl) (In.wk r18 rfl) _)) rfl ?_)))))
  rintro _ w9 ⟨hh1, c01, c11, c21, c31, c41, rfl, e01, e11, e21, e31, e41, g01, g11, g21, g31, g41, gv1, k8⟩
  obtain ⟨hB, hbx2⟩ := bT k8 hB hbx2
  replace e01 : c01 = z26 / 2251799813685248 := e01
  replace e11 : c11 = (z11 + c01) / 2251799813685248 := e11
  replace e21 : c21 = (z15 + c11) / 2251799813685248 := e21
  replace e31 : c31 = (z19 + c21) / 2251799813685248 := e31
  replace e41 : c41 = (z21 + c31) / 2251799813685248 := e41
  replace g01 : hh1 0 = z26 % 2251799813685248 + 19 * c41 := g01
  replace g11 : hh1 1 = (z11 + c01) % 2251799813685248 := g11
  replace g21 : hh1 2 = (z15 + c11) % 2251799813685248 := g21
  replace g31 : hh1 3 = (z19 + c21) % 2251799813685248 := g31
  replace g41 : hh1 4 = (z21 + c31) % 2251799813685248 := g41
  replace gv1 : dC hh1 + c41 * 57896044618658097711785492504343953926634992332820282019728792003956564819949 = z26 + z11 * 2251799813685248 + z15 * 5070602400912917605986812821504 + z19 * 11417981541647679048466287755595961091061972992 + z21 * 25711008708143844408671393477458601640355247900524685364822016 := gv1
  obtain ⟨r22, r23, r24, r25, r26⟩ := cf (t := 2251799813685266) e01 e11 e21 e31 e41 g01 g11 g21 g31 g41 (In.wk r21 rfl : In _ 0 2251799813685266) (In.wk r8 rfl : In _ 0 2251799813685247) (In.wk r12 rfl : In _ 0 2251799813685247) (In.wk r16 rfl : In _ 0 2251799813685247) (In.wk r18 rfl : In _ 0 2251799813685247) rfl
  refine a6 (ak ah rfl rfl rfl ad hbx2 rfl) ?_
  rintro _ w10 ⟨hb7, k9, z28⟩
  replace hB := hB.new k9 (nw ge_b1)
  clear z28
  replace hb7 := cv (g := hh1) hb7
  refine aT (bP hfin Tryd.results56 rfl (ae ay ah hb7 rfl)  ?_)
  exact ⟨hh1, rfl, ⟨(In.wk r22 rfl), (In.wk r23 rfl), (In.wk r24 rfl), (In.wk r25 rfl), (In.wk r26 rfl), by rw [iH (b := leI xs) (-(c41 + (wd3 / 9223372036854775808))) (by have hg := get_val (In.wk rg0 rfl) (In.wk rg1 rfl) (In.wk rg2 rfl) (In.wk rg3 rfl); have gv := gv1; clear e01 e11 e21 e31 e41 g01 g11 g21 g31 g41; simp only [Eqn] at h18 h17 h16 h15 h14 h13 h12 h11 h10 h9 h8 h7 h6 h5 h21 h20 h19 h4; subst h21 h20 h19 h18 h17 h16 h15 h14 h13 h12 h11 h10 h9 h8 h7 h6 h5 h4; omega)]⟩, hB⟩
end Go.Proofs.YtllmbkmghmmhfaaDoor.W
namespace Go.Fld
open Go Go.Eng Go.Ed Go.Byt
theorem w4_in {w0 w1 w2 w3 : Int} (h0 : In w0 0 18446744073709551615) (h1 : In w1 0 18446744073709551615) (h2 : In w2 0 18446744073709551615) (h3 : In w3 0 18446744073709551615) (j : Nat) : In (vecN [w0, w1, w2, w3] j) 0 18446744073709551615 := by
 match j with
 | 0 => exact h0
 | 1 => exact h1
 | 2 => exact h2
 | 3 => exact h3
 | j + 4 => show In 0 0 18446744073709551615; decide
theorem ga {V w0 w1 w2 w3 : Int} (h0 : In w0 0 18446744073709551615) (h1 : In w1 0 18446744073709551615) (h2 : In w2 0 18446744073709551615) (h3 : In w3 0 18446744073709551615) (hV : V = w0 + w1 * 18446744073709551616 + w2 * 340282366920938463463374607431768211456 + w3 * 6277101735386680763835789423207666416102355444464034512896) {i : Nat} (hi : i < 32) :
   vecN [w0, w1, w2, w3] (i / 8) / 2 ^ (8 * ((i : Int) % 8)).toNat % 256 = byteN V i := by
 have hw := j5 h0 h1 h2 h3 hV
 have hg : (iv .u8 32 (byteN V))[i]? = some (.int .u8 (byteN V i)) := bO hi
 rw [hw] at hg
 unfold In at *
 have hk : i = 0 ∨ i = 1 ∨ i = 2 ∨ i = 3 ∨ i = 4 ∨ i = 5 ∨ i = 6 ∨ i = 7 ∨ i = 8 ∨ i = 9 ∨ i = 10 ∨ i = 11 ∨ i = 12 ∨ i = 13 ∨ i = 14 ∨ i = 15 ∨ i = 16 ∨ i = 17 ∨ i = 18 ∨ i = 19 ∨ i = 20 ∨ i = 21 ∨ i = 22 ∨ i = 23 ∨ i = 24 ∨ i = 25 ∨ i = 26 ∨ i = 27 ∨ i = 28 ∨ i = 29 ∨ i = 30 ∨ i = 31 := by omega
 clear hw hV hi
 rcases hk with rfl | rfl | rfl | rfl | rfl | rfl | rfl | rfl | rfl | rfl | rfl | rfl | rfl | rfl | rfl | rfl | rfl | rfl | rfl | rfl | rfl | rfl | rfl | rfl | rfl | rfl | rfl | rfl | rfl | rfl | rfl | rfl <;>
   (have e := (Value.int.inj (Option.some.inj hg)).2; rw [← e]; clear hg e; simp [vecN] <;> omega)
end Go.Fld
namespace Go.Proofs.YtllmbkmghmmhfaaDoor.W
open Go Go.Eng Go.Byt
open Go.Fld Go.Ed
theorem el (f : Nat → Int) (a : Fp) (hf : El f a) (w : World) : Rets Tryd.prog 55 [.agg (iv .u64 5 f).toArray] w (fun v w' => OwnB w' w.heap.size v (fpB a) ∧ Keep [] w w') := by
  have hB : Keep [] w w := Keep.refl _ _
  obtain ⟨f0, f1, f2, f3, f4, hfv⟩ := hf
  refine a7 Tryd.func55 rfl (by decide) Tryd.ntmps55 rfl (fun fin _ hfin => aS (aR (a9 (bc (cs := [.int .u64 (f 0), .int .u64 (f 1), .int .u64 (f 2), .int .u64 (f 3), .int .u64 (f 4)]) rfl rfl) rfl ?_)))
  rintro _ w1 ⟨b1, rfl, eb1, hb1, k1, z1⟩
  have ge_b1 : w.heap.size ≤ b1 := by have := hB.size; omega
  replace hB := hB.trans k1
  clear eb1 z1
  refine oga rfl rfl (aT (aS (aR (aU (aX (cs' := [_, _, _, _, _]) ay ah rfl hb1 rfl rfl) rfl (a9 (aV (vs := [_]) rfl (d9 f (In.wk f0 rfl) (In.wk f1 rfl) (In.wk f2 rfl) (In.wk f3 rfl) (In.wk f4 rfl) _)) rfl ?_)))))
  rintro _ w2 ⟨hh1, c01, c11, c21, c31, c41, rfl, e01, e11, e21, e31, e41, g01, g11, g21, g31, g41, gv1, k2⟩
  obtain ⟨hB, hb1⟩ := bT k2 hB hb1
  obtain ⟨r1, r2, r3, r4, r5⟩ := cf (t := 2251799813685285) e01 e11 e21 e31 e41 g01 g11 g21 g31 g41 (In.wk f0 rfl : In _ 0 4503599627370495) (In.wk f1 rfl : In _ 0 4503599627370495) (In.wk f2 rfl : In _ 0 4503599627370495) (In.wk f3 rfl : In _ 0 4503599627370495) (In.wk f4 rfl : In _ 0 4503599627370495) rfl
  refine a9 (aV (vs := [_]) rfl (d9 hh1 (In.wk r1 rfl) (In.wk r2 rfl) (In.wk r3 rfl) (In.wk r4 rfl) (In.wk r5 rfl) _)) rfl ?_
  rintro _ w3 ⟨hh2, c02, c12, c22, c32, c42, rfl, e02, e12, e22, e32, e42, g02, g12, g22, g32, g42, gv2, k3⟩
  obtain ⟨hB, hb1⟩ := bT k3 hB hb1
  obtain ⟨r6, r7, r8, r9, r10⟩ := cf (t := 2251799813685266) e02 e12 e22 e32 e42 g02 g12 g22 g32 g42 (In.wk r1 rfl : In _ 0 2251799813685285) (In.wk r2 rfl : In _ 0 2251799813685247) (In.wk r3 rfl : In _ 0 2251799813685247) (In.wk r4 rfl : In _ 0 2251799813685247) (In.wk r5 rfl : In _ 0 2251799813685247) rfl
  have r11 := kV e01 e11 e21 e31 e41 g01 g11 g21 g31 g41 f0 f1 f2 f3 f4 e02 e12 e22 e32 e42 g02
  refine a6 (ak ah rfl rfl rfl ad hb1 rfl) ?_
  rintro _ w4 ⟨hb2, k4, z2⟩
  replace hB := hB.new k4 (nw ge_b1)
  clear z2
  replace hb2 := cv (g := hh2) hb2
  refine aT (aS (aR (aU (aX (cs' := [_, _, _, _, _]) ay ah rfl hb2 rfl rfl) rfl (a9 (ab ah) rfl ?_))))
  rintro _ w5 ⟨b2, rfl, eb2, hb3, k5, z3⟩
  have ge_b2 : w.heap.size ≤ b2 := by have := hB.size; omega
  have ne_b1_b2 : b1 ≠ b2 := by have := hb2.lt; omega
  obtain ⟨hB, hb2⟩ := bT k5 hB hb2
  clear eb2 z3
  refine a6 (ak ah rfl rfl rfl (by simp only [List.forall_mem_cons]; refine ⟨rfl, rfl, rfl, rfl, rfl, fun v hv => by cases hv⟩) hb3 rfl) ?_
  rintro _ w6 ⟨hb4, k6, z4⟩
  replace hb2 := hb2.keep k6 (nm ne_b1_b2)
  replace hB := hB.new k6 (nw ge_b2)
  clear z4
  replace hb4 := cv (g := hh2) hb4
  refine aT (aS (aR (aU (aa aA aY rfl rfl (by decide)) rfl (aU (aZ ai rfl hb4 rfl) rfl (ag (e' := (hh2 0) + 19) (lo := 19) (hi := 2251799813685266) (an rfl rfl) (am (al r11 (dG 19)) rfl) (In.wk (al r11 (dG 19)) rfl) rfl (fun z5 h1 r12 => aU (aa aA aY rfl rfl (by decide)) rfl (a6 (cD aY rfl rfl rfl hb4 rfl) ?_)))))))
  rintro _ w7 ⟨hb5, k7, z6⟩
  replace hb2 := hb2.keep k7 (nm ne_b1_b2)
  replace hB := hB.new k7 (nw ge_b2)
  clear z6
  replace hb5 : Bk w7 b2 _ [.int .u64 z5, .int .u64 (hh2 1), .int .u64 (hh2 2), .int .u64 (hh2 3), .int .u64 (hh2 4)] := hb5
  refine aT (aW [(1, _), (3, _)] ⟨rfl, rfl, trivial⟩ (aS (aS (aR (ogm rfl rfl (aT (a5 (dQ 4 ?_))))))))
  refine aS (aR (aU (bW rfl rfl) rfl (aT (aS (bF rfl (by decide) (a8 (aS (a5 ?_))))))))
  refine aS (aR (ogm rfl rfl (oga rfl rfl (aT (aS (bf 9 mixed (by decide +kernel) (fun w8 k8 => ?_)))))))
  obtain ⟨hB, hb2, hb5⟩ := cX k8 hB hb2 hb5
  refine ac (ax rfl) rfl (ac (aq (j := 1) (an rfl rfl) (by decide)) rfl (ac (aa aA aY rfl rfl (by decide)) rfl (ac (aZ ai rfl hb5 rfl) rfl (ac (ax rfl) rfl (ac (aa aA aY rfl rfl (by decide)) rfl (ac (aZ ai rfl hb5 rfl) rfl (bk (e' := z5 / 2251799813685248) (lo := 0) (hi := 1) (bl (m := 2251799813685248) rfl rfl (by decide) rfl) (rfl) (In.wk (bB r12 (by decide)) rfl) rfl (fun z7 h2 r13 => bk (e' := (hh2 1) + z7) (lo := 0) (hi := 2251799813685248) (an rfl rfl) (am (al r7 r13) rfl) (In.wk (al r7 r13) rfl) rfl (fun z8 h3 r14 => ?_)))))))))
  refine cB (aU (aa aA aY rfl rfl (by decide)) rfl (a6 (cD aY rfl rfl rfl hb5 rfl) ?_))
  rintro _ w9 ⟨hb6, k9, z9⟩
  replace hb2 := hb2.keep k9 (nm ne_b1_b2)
  replace hB := hB.new k9 (nw ge_b2)
  clear z9
  replace hb6 : Bk w9 b2 _ [.int .u64 z5, .int .u64 z8, .int .u64 (hh2 2), .int .u64 (hh2 3), .int .u64 (hh2 4)] := hb6
  refine aT (aW [(1, _), (3, _), (16, _), (4, _)] ⟨rfl, rfl, rfl, rfl, trivial⟩ (aR (ogm rfl rfl (aU (aa aA aY rfl rfl (by decide)) rfl (aU (aZ ai rfl hb6 rfl) rfl (ag (e' := z5 % 2251799813685248) (lo := 0) (hi := 2251799813685247) (cY rfl rfl) (bd 51 r12 rfl rfl rfl rfl rfl rfl) (In.wk (au _ (by decide)) rfl) rfl (fun z10 h4 r15 => aU (aa aA aY rfl rfl (by decide)) rfl (a6 (cD aY rfl rfl rfl hb6 rfl) ?_))))))))
  rintro _ w10 ⟨hb7, k10, z11⟩
  replace hb2 := hb2.keep k10 (nm ne_b1_b2)
  replace hB := hB.new k10 (nw ge_b2)
  clear z11
  replace hb7 : Bk w10 b2 _ [.int .u64 z10, .int .u64 z8, .int .u64 (hh2 2), .int .u64 (hh2 3), .int .u64 (hh2 4)] := hb7
  refine aT (bg (aR (aU (aq (j := 1) (an rfl rfl) (by decide)) rfl (ogm rfl rfl (aT (bn (aS (aR ?_))))))))
  refine aU (bW rfl rfl) rfl (aT (aS (bF rfl (by decide) (a8 (aS (a5 (aS (aR ?_))))))))
  refine ogm rfl rfl (oga rfl rfl (aT (aS (bf 9 mixed (by decide +kernel) (fun w11 k11 => ?_)))))
  obtain ⟨hB, hb2, hb7⟩ := cX k11 hB hb2 hb7
  refine ac (ax rfl) rfl (ac (aq (j := 2) (an rfl rfl) (by decide)) rfl (ac (aa aA aY rfl rfl (by decide)) rfl (ac (aZ ai rfl hb7 rfl) rfl (ac (ax rfl) rfl (ac (aa aA aY rfl rfl (by decide)) rfl (ac (aZ ai rfl hb7 rfl) rfl (bk (e' := z8 / 2251799813685248) (lo := 0) (hi := 1) (bl (m := 2251799813685248) rfl rfl (by decide) rfl) (rfl) (In.wk (bB r14 (by decide)) rfl) rfl (fun z12 h5 r16 => bk (e' := (hh2 2) + z12) (lo := 0) (hi := 2251799813685248) (an rfl rfl) (am (al r8 r16) rfl) (In.wk (al r8 r16) rfl) rfl (fun z13 h6 r17 => ?_)))))))))
  refine cB (aU (aa aA aY rfl rfl (by decide)) rfl (a6 (cD aY rfl rfl rfl hb7 rfl) ?_))
  rintro _ w12 ⟨hb8, k12, z14⟩
  replace hb2 := hb2.keep k12 (nm ne_b1_b2)
  replace hB := hB.new k12 (nw ge_b2)
  clear z14
  replace hb8 : Bk w12 b2 _ [.int .u64 z10, .int .u64 z8, .int .u64 z13, .int .u64 (hh2 3), .int .u64 (hh2 4)] := hb8
  refine aT (aW [(1, _), (3, _), (16, _), (4, _)] ⟨rfl, rfl, rfl, rfl, trivial⟩ (aR (ogm rfl rfl (aU (aa aA aY rfl rfl (by decide)) rfl (aU (aZ ai rfl hb8 rfl) rfl (ag (e' := z8 % 2251799813685248) (lo := 0) (hi := 2251799813685247) (cY rfl rfl) (bd 51 r14 rfl rfl rfl rfl rfl rfl) (In.wk (au _ (by decide)) rfl) rfl (fun z15 h7 r18 => aU (aa aA aY rfl rfl (by decide)) rfl (a6 (cD aY rfl rfl rfl hb8 rfl) ?_))))))))
  rintro _ w13 ⟨hb9, k13, z16⟩
  replace hb2 := hb2.keep k13 (nm ne_b1_b2)
  replace hB := hB.new k13 (nw ge_b2)
  clear z16
  replace hb9 : Bk w13 b2 _ [.int .u64 z10, .int .u64 z15, .int .u64 z13, .int .u64 (hh2 3), .int .u64 (hh2 4)] := hb9
  refine aT (bg (aR (aU (aq (j := 2) (an rfl rfl) (by decide)) rfl (ogm rfl rfl (aT (bn (aS (aR ?_))))))))
  refine aU (bW rfl rfl) rfl (aT (aS (bF rfl (by decide) (a8 (aS (a5 (aS (aR ?_))))))))
  refine ogm rfl rfl (oga rfl rfl (aT (aS (bf 9 mixed (by decide +kernel) (fun w14 k14 => ?_)))))
  obtain ⟨hB, hb2, hb9⟩ := cX k14 hB hb2 hb9
  refine ac (ax rfl) rfl (ac (aq (j := 3) (an rfl rfl) (by decide)) rfl (ac (aa aA aY rfl rfl (by decide)) rfl (ac (aZ ai rfl hb9 rfl) rfl (ac (ax rfl) rfl (ac (aa aA aY rfl rfl (by decide)) rfl (ac (aZ ai rfl hb9 rfl) rfl (bk (e' := z13 / 2251799813685248) (lo := 0) (hi := 1) (bl (m := 2251799813685248) rfl rfl (by decide) rfl) (rfl) (In.wk (bB r17 (by decide)) rfl) rfl (fun z17 h8 r19 => bk (e' := (hh2 3) + z17) (lo := 0) (hi := 2251799813685248) (an rfl rfl) (am (al r9 r19) rfl) (In.wk (al r9 r19) rfl) rfl (fun z18 h9 r20 => ?_)))))))))
  refine cB (aU (aa aA aY rfl rfl (by decide)) rfl (a6 (cD aY rfl rfl rfl hb9 rfl) ?_))
  rintro _ w15 ⟨hb10, k15, z19⟩
  replace hb2 := hb2.keep k15 (nm ne_b1_b2)
  replace hB := hB.new k15 (nw ge_b2)
  clear z19
  replace hb10 : Bk w15 b2 _ [.int .u64 z10, .int .u64 z15, .int .u64 z13, .int .u64 z18, .int .u64 (hh2 4)] := hb10
  refine aT (aW [(1, _), (3, _), (16, _), (4, _)] ⟨rfl, rfl, rfl, rfl, trivial⟩ (aR (ogm rfl rfl (aU (aa aA aY rfl rfl (by decide)) rfl (aU (aZ ai rfl hb10 rfl) rfl (ag (e' := z13 % 2251799813685248) (lo := 0) (hi := 2251799813685247) (cY rfl rfl) (bd 51 r17 rfl rfl rfl rfl rfl rfl) (In.wk (au _ (by decide)) rfl) rfl (fun z20 h10 r21 => aU (aa aA aY rfl rfl (by decide)) rfl (a6 (cD aY rfl rfl rfl hb10 rfl) ?_))))))))
  rintro _ w16 ⟨hb11, k16, z21⟩
  replace hb2 := hb2.keep k16 (nm ne_b1_b2)
  replace hB := hB.new k16 (nw ge_b2)
  clear z21
  replace hb11 : Bk w16 b2 _ [.int .u64 z10, .int .u64 z15, .int .u64 z20, .int .u64 z18, .int .u64 (hh2 4)] := hb11
  refine aT (bg (aR (aU (aq (j := 3) (an rfl rfl) (by decide)) rfl (ogm rfl rfl (aT (bn (aS (aR ?_))))))))
  refine aU (bW rfl rfl) rfl (aT (aS (bF rfl (by decide) (a8 (aS (a5 (aS (aR ?_))))))))
  refine ogm rfl rfl (oga rfl rfl (aT (aS (bf 9 mixed (by decide +kernel) (fun w17 k17 => ?_)))))
  obtain ⟨hB, hb2, hb11⟩ := cX k17 hB hb2 hb11
  refine ac (ax rfl) rfl (ac (aq (j := 4) (an rfl rfl) (by decide)) rfl (ac (aa aA aY rfl rfl (by decide)) rfl (ac (aZ ai rfl hb11 rfl) rfl (ac (ax rfl) rfl (ac (aa aA aY rfl rfl (by decide)) rfl (ac (aZ ai rfl hb11 rfl) rfl (bk (e' := z18 / 2251799813685248) (lo := 0) (hi := 1) (bl (m := 2251799813685248) rfl rfl (by decide) rfl) (rfl) (In.wk (bB r20 (by decide)) rfl) rfl (fun z22 h11 r22 => bk (e' := (hh2 4) + z22) (lo := 0) (hi := 2251799813685248) (an rfl rfl) (am (al r10 r22) rfl) (In.wk (al r10 r22) rfl) rfl (fun z23 h12 r23 => ?_)))))))))
  refine cB (aU (aa aA aY rfl rfl (by decide)) rfl (a6 (cD aY rfl rfl rfl hb11 rfl) ?_))
  rintro _ w18 ⟨hb12, k18, z24⟩
  replace hb2 := hb2.keep k18 (nm ne_b1_b2)
  replace hB := hB.new k18 (nw ge_b2)
  clear z24
  replace hb12 : Bk w18 b2 _ [.int .u64 z10, .int .u64 z15, .int .u64 z20, .int .u64 z18, .int .u64 z23] := hb12
  refine aT (aW [(1, _), (3, _), (16, _), (4, _)] ⟨rfl, rfl, rfl, rfl, trivial⟩ (aR (ogm rfl rfl (aU (aa aA aY rfl rfl (by decide)) rfl (aU (aZ ai rfl hb12 rfl) rfl (ag (e' := z18 % 2251799813685248) (lo := 0) (hi := 2251799813685247) (cY rfl rfl) (bd 51 r20 rfl rfl rfl rfl rfl rfl) (In.wk (au _ (by decide)) rfl) rfl (fun z25 h13 r24 => aU (aa aA aY rfl rfl (by decide)) rfl (a6 (cD aY rfl rfl rfl hb12 rfl) ?_))))))))
  rintro _ w19 ⟨hb13, k19, z26⟩
  replace hb2 := hb2.keep k19 (nm ne_b1_b2)
  replace hB := hB.new k19 (nw ge_b2)
  clear z26
  replace hb13 : Bk w19 b2 _ [.int .u64 z10, .int .u64 z15, .int .u64 z20, .int .u64 z25, .int .u64 z23] := hb13
  refine aT (bg (aR (aU (aq (j := 4) (an rfl rfl) (by decide)) rfl (ogm rfl rfl (aT (bn (aS (aR ?_))))))))
  refine aU (bW rfl rfl) rfl (aT (aS (cU rfl (by decide) (bE rfl (aS (aS (aR (aU (aa aA aY rfl rfl (by decide)) rfl ?_))))))))
  refine aU (aZ ai rfl hb13 rfl) rfl (ag (e' := z23 / 2251799813685248) (lo := 0) (hi := 1) (bl (m := 2251799813685248) rfl rfl (by decide) rfl) (rfl) (In.wk (bB r23 (by decide)) rfl) rfl (fun z27 h14 r25 => aU (dU rfl rfl) rfl (aT (aW [(1, _), (3, _), (38, _)] ⟨rfl, rfl, rfl, trivial⟩ (bo rfl (fun hc1 => ?_) (fun hc1 => ?_))))))
  · -- yes
    refine aS (aR (aU (aa aA aY rfl rfl (by decide)) rfl (aU (aZ ai rfl hb13 rfl) rfl (ag (e' := z23 % 2251799813685248) (lo := 0) (hi := 2251799813685247) (cY rfl rfl) (bd 51 r23 rfl rfl rfl rfl rfl rfl) (In.wk (au _ (by decide)) rfl) rfl (fun z28 h15 r26 => aU (aa aA aY rfl rfl (by decide)) rfl (a6 (cD aY rfl rfl rfl hb13 rfl) ?_))))))
    rintro _ w20 ⟨hb14, k20, z29⟩
    replace hb2 := hb2.keep k20 (nm ne_b1_b2)
    replace hB := hB.new k20 (nw ge_b2)
    clear z29
    replace hb14 : Bk w20 b2 _ [.int .u64 z10, .int .u64 z15, .int .u64 z20, .int .u64 z25, .int .u64 z28] := hb14
    refine aT (aR (aU (aX (cs' := [_, _, _, _, _]) ay ah rfl hb14 rfl rfl) rfl (a6 (ak ah rfl rfl rfl (by simp only [List.forall_mem_cons]; refine ⟨rfl, rfl, rfl, rfl, rfl, fun v hv => by cases hv⟩) hb2 rfl) ?_)))
    rintro _ w21 ⟨hb15, k21, z30⟩
    replace hb14 := hb14.keep k21 (nm (Ne.symm ne_b1_b2))
    replace hB := hB.new k21 (nw ge_b1)
    clear z30
    replace hb15 : Bk w21 b1 _ [.int .u64 z10, .int .u64 z15, .int .u64 z20, .int .u64 z25, .int .u64 z28] := hb15
    refine aT (aS (aR (aU (aa aA aY rfl rfl (by decide)) rfl (aU (aZ ai rfl hb15 rfl) rfl (aU (aa aA aY rfl rfl (by decide)) rfl (aU (aZ ai rfl hb15 rfl) rfl (ag (e' := (z15 * 2251799813685248) % 18446744073709551616) (lo := 0) (hi := 18446744073709551615) (dB (m := 2251799813685248) rfl rfl (by decide) rfl) (cH rfl _) (In.wk (au _ (by decide)) rfl) rfl (fun z31 h16 r27 => ag (e' := z10 + z31) (lo := 0) (hi := 18446744073709551615) (du rfl rfl) (bq 51 (m := 2251799813685248) r27 rfl r15 rfl rfl rfl rfl (cN h16 (bN _ (by decide))) rfl rfl) (In.wk (ew (k := .u64) rfl (bq 51 (m := 2251799813685248) r27 rfl r15 rfl rfl rfl rfl (cN h16 (bN _ (by decide))) rfl rfl)) rfl) rfl (fun z32 h17 r28 => ?_)))))))))
    refine aU (aa aA aY rfl rfl (by decide)) rfl (aU (aZ ai rfl hb15 rfl) rfl (ag (e' := z15 / 8192) (lo := 0) (hi := 274877906943) (bl (m := 8192) rfl rfl (by decide) rfl) (rfl) (In.wk (bB r18 (by decide)) rfl) rfl (fun z33 h18 r29 => aU (aa aA aY rfl rfl (by decide)) rfl (aU (aZ ai rfl hb15 rfl) rfl (ag (e' := (z20 * 274877906944) % 18446744073709551616) (lo := 0) (hi := 18446744073709551615) (dB (m := 274877906944) rfl rfl (by decide) rfl) (cH rfl _) (In.wk (au _ (by decide)) rfl) rfl (fun z34 h19 r30 => ag (e' := z33 + z34) (lo := 0) (hi := 18446744073709551615) (du rfl rfl) (bq 38 (m := 274877906944) r30 rfl r29 rfl rfl rfl rfl (cN h19 (bN _ (by decide))) rfl rfl) (In.wk (ew (k := .u64) rfl (bq 38 (m := 274877906944) r30 rfl r29 rfl rfl rfl rfl (cN h19 (bN _ (by decide))) rfl rfl)) rfl) rfl (fun z35 h20 r31 => aU (aa aA aY rfl rfl (by decide)) rfl (aU (aZ ai rfl hb15 rfl) rfl ?_))))))))
    refine ag (e' := z20 / 67108864) (lo := 0) (hi := 33554431) (bl (m := 67108864) rfl rfl (by decide) rfl) (rfl) (In.wk (bB r21 (by decide)) rfl) rfl (fun z36 h21 r32 => aU (aa aA aY rfl rfl (by decide)) rfl (aU (aZ ai rfl hb15 rfl) rfl (ag (e' := (z25 * 33554432) % 18446744073709551616) (lo := 0) (hi := 18446744073709551615) (dB (m := 33554432) rfl rfl (by decide) rfl) (cH rfl _) (In.wk (au _ (by decide)) rfl) rfl (fun z37 h22 r33 => ag (e' := z36 + z37) (lo := 0) (hi := 18446744073709551615) (du rfl rfl) (bq 25 (m := 33554432) r33 rfl r32 rfl rfl rfl rfl (cN h22 (bN _ (by decide))) rfl rfl) (In.wk (ew (k := .u64) rfl (bq 25 (m := 33554432) r33 rfl r32 rfl rfl rfl rfl (cN h22 (bN _ (by decide))) rfl rfl)) rfl) rfl (fun z38 h23 r34 => aU (aa aA aY rfl rfl (by decide)) rfl (aU (aZ ai rfl hb15 rfl) rfl (ag (e' := z25 / 549755813888) (lo := 0) (hi := 4095) (bl (m := 549755813888) rfl rfl (by decide) rfl) (rfl) (In.wk (bB r24 (by decide)) rfl) rfl (fun z39 h24 r35 => aU (aa aA aY rfl rfl (by decide)) rfl ?_))))))))
    refine aU (aZ ai rfl hb15 rfl) rfl (ag (e' := z28 * 4096) (lo := 0) (hi := 9223372036854771712) (dB (m := 4096) rfl rfl (by decide) rfl) (am (cn r26 (by decide)) rfl) (In.wk (cn r26 (by decide)) rfl) rfl (fun z40 h25 r36 => ag (e' := z39 + z40) (lo := 0) (hi := 9223372036854775807) (du rfl rfl) (bq 12 (m := 4096) r36 rfl r35 rfl rfl rfl rfl (cN h25 (Int.mul_emod_left _ _)) rfl rfl) (In.wk (al r35 r36) rfl) rfl (fun z41 h26 r37 => aU (cx (idx := [0, 1, 2, 3]) (xs := [.tmp 49, .tmp 56, .tmp 63, .tmp 70]) (vs := [_, _, _, _]) (css := [[.int .u64 z32], [.int .u64 z35], [.int .u64 z38], [.int .u64 z41]]) (out := [.int .u64 z32, .int .u64 z35, .int .u64 z38, .int .u64 z41]) aG aY gd (cW 4 1) rfl rfl ⟨rfl, rfl, rfl, rfl, trivial⟩ rfl rfl) rfl (a9 (ab gd) rfl ?_))))
    rintro _ w22 ⟨b3, rfl, eb3, hb16, k22, z42⟩
    have ge_b3 : w.heap.size ≤ b3 := by have := hB.size; omega
    have ne_b1_b3 : b1 ≠ b3 := by have := hb15.lt; omega
    obtain ⟨hB, hb15⟩ := bT k22 hB hb15
    clear eb3 z42
    refine a6 (ak gd rfl rfl rfl (by simp only [List.forall_mem_cons]; refine ⟨rfl, rfl, rfl, rfl, fun v hv => by cases hv⟩) hb16 rfl) ?_
    rintro _ w23 ⟨hb17, k23, z43⟩
    replace hb15 := hb15.keep k23 (nm ne_b1_b3)
    replace hB := hB.new k23 (nw ge_b3)
    clear z43
    replace hb17 : Bk w23 b3 _ [.int .u64 z32, .int .u64 z35, .int .u64 z38, .int .u64 z41] := hb17
    refine aT (aS (aR (a9 (mu aB cZ rfl rfl (by omega) (by constructor <;> omega)) rfl ?_)))
    rintro q w5 ⟨o5, _, _, k5, _⟩
    have hsep : ∀ x, x ∈ vblk q → x ≠ b3 := fun x hx => by have h1 := (o5.blk x hx).1; have h2 := hb17.lt; omega
    replace o5 : Own w5 w.heap.size 5 1 q 32 (iv .u8 32 (fun _ => 0)) := by rw [iv, cG]; exact o5.lo hB.size
    obtain ⟨hB, hb15, hb17⟩ := cX k5 hB hb15 hb17
    refine oga rfl rfl (aT (aW [(5, _), (6, _)] ⟨rfl, rfl, trivial⟩ (aS (aS (aR (ogm rfl rfl (aU (bp aB rfl (by first | assumption | exact Own.rd (by assumption) | exact Rd.pK (by assumption) hB | exact Own.rd (Own.pK (by assumption) hB))) rfl (ogm rfl rfl ?_))))))))
    refine aT (a5 ?_)
    have hv2 : dC hh2 = hh2 0 + hh2 1 * 2251799813685248 + hh2 2 * 5070602400912917605986812821504 + hh2 3 * 11417981541647679048466287755595961091061972992 + hh2 4 * 25711008708143844408671393477458601640355247900524685364822016 := rfl
    have hV0 : In (z10 + z15 * 2251799813685248 + z20 * 5070602400912917605986812821504 + z25 * 11417981541647679048466287755595961091061972992 + z28 * 25711008708143844408671393477458601640355247900524685364822016) 0 (57896044618658097711785492504343953926634992332820282019728792003956564819949 - 1) := by clear e01 e11 e21 e31 e41 g01 g11 g21 g31 g41 e02 e12 e22 e32 e42 g02 g12 g22 g32 g42 gv1 gv2; simp only [Eqn, In] at h1 h2 h3 h4 h5 h6 h7 h8 h9 h10 h11 h12 h13 h14 h15 r15 r18 r21 r24 r26 r11 r7 r8 r9 r10 ⊢; omega
    have hVa : fp (z10 + z15 * 2251799813685248 + z20 * 5070602400912917605986812821504 + z25 * 11417981541647679048466287755595961091061972992 + z28 * 25711008708143844408671393477458601640355247900524685364822016) = a := by rw [← hfv]; exact iH (-(c41 + c42 + 1)) (by have gv1 := gv1; have gv2 := gv2; clear e01 e11 e21 e31 e41 g01 g11 g21 g31 g41 e02 e12 e22 e32 e42 g02 g12 g22 g32 g42; simp only [Eqn, In] at h1 h2 h3 h4 h5 h6 h7 h8 h9 h10 h11 h12 h13 h14 h15 r15 r18 r21 r24 r26 r11 r7 r8 r9 r10; omega)
    have hval : (a.val : Int) = (z10 + z15 * 2251799813685248 + z20 * 5070602400912917605986812821504 + z25 * 11417981541647679048466287755595961091061972992 + z28 * 25711008708143844408671393477458601640355247900524685364822016) := nJ hVa hV0.1 (by have := hV0.2; omega)
    have hpw := ia (In.wk r15 rfl) (In.wk r18 rfl) (In.wk r21 rfl) (In.wk r24 rfl) (In.wk r26 rfl)
    have hsum : (a.val : Int) = z32 + z35 * 18446744073709551616 + z38 * 340282366920938463463374607431768211456 + z41 * 6277101735386680763835789423207666416102355444464034512896 := by rw [hval]; clear hval hVa hV0; simp only [Eqn] at h26 h25 h24 h23 h22 h21 h20 h19 h18 h17 h16; subst h26 h25 h24 h23 h22 h21 h20 h19 h18 h17 h16; exact hpw
    have hwb : ∀ i : Nat, i < 32 → _ := fun i hi => ga (In.wk r28 rfl) (In.wk r31 rfl) (In.wk r34 rfl) (In.wk r37 rfl) hsum (i := i) hi
    have hwi := w4_in (In.wk r28 rfl) (In.wk r31 rfl) (In.wk r34 rfl) (In.wk r37 rfl)
    replace hb17 : Bk w5 b3 91 (iv .u64 4 (vecN [z32, z35, z38, z41])) := hb17
    refine bi (Γ := Nat × (Nat → Int)) (fun ⟨i, h⟩ => [(5, .pointer (some ⟨b3, 0, none⟩)), (6, q), (74, .int .i64 32), (75, .int .i64 (i : Int))]) (fun ⟨i, h⟩ W => i ≤ 32 ∧ (∀ j, j < i → h j = byteN (a.val : Int) j) ∧ Own W w.heap.size 5 1 q 32 (iv .u8 32 h) ∧ Bk W b3 91 (iv .u64 4 (vecN [z32, z35, z38, z41])) ∧ Keep [] w W) (fun ⟨i, h⟩ => 32 - i) ⟨0, _⟩ ⟨rfl, rfl, rfl, rfl, trivial⟩ (⟨by decide, fun j hj => by omega, o5, hb17, hB⟩) ?_
    rintro ⟨i, h⟩ w25 ⟨hi0, hP, ox, hbw, hB⟩
    refine aW [(5, .pointer (some ⟨b3, 0, none⟩)), (6, q), (74, .int .i64 32), (75, .int .i64 (i : Int))] ⟨rfl, rfl, rfl, rfl, trivial⟩ (aS (aR (aU (bW rfl rfl) rfl (aT (aS (bo rfl (fun hc2 => ?_) (fun hc2 => ?_)))))))
    · -- yes
      refine a8 (aS (a5 (aS (aR (ogm rfl rfl (oga rfl rfl (aT (aR ?_))))))))
      refine ogm rfl rfl (ogm rfl rfl (ogm rfl rfl (aU (eg rfl rfl (by omega)) rfl (aU (ap (i / 8) aG aY rfl rfl (by omega) (by omega)) rfl (ag (e' := (vecN [z32, z35, z38, z41]) (i / 8)) (lo := 0) (hi := 18446744073709551615) (aZ ai rfl hbw (bO (by omega))) (rfl) ((hwi _)) rfl (fun z45 h27 r38 => ogm rfl rfl (aU (e9 rfl rfl (by omega)) rfl (aU (gN rfl rfl (by omega)) rfl ?_))))))))
      refine aU (fa rfl rfl (by constructor <;> (try simp only [IntKind.bits]) <;> omega)) rfl (ag (e' := (z45 / 2 ^ ((8 * ((i : Int) % 8)) : Int).toNat) % 256) (lo := 0) (hi := 255) (gC (by rw [aJ]; rfl) aK rfl) (cH rfl _) (In.wk (au _ (by decide)) rfl) rfl (fun z46 h28 r39 => aU (dV aB cZ rfl (by first | assumption | exact Own.rd (by assumption) | exact Rd.pK (by assumption) hB | exact Own.rd (Own.pK (by assumption) hB)) rfl (by omega)) rfl (a6 (iO (u := .int .u8 z46) cZ rfl rfl rfl ox (by rw [bh]; omega)) ?_)))
      rintro _ w9 ⟨ox2, k9, z9⟩
      rw [show (i : Int).toNat * 1 = i by omega, jR] at ox2
      replace hB := hB.new k9 (fun x hx => .inl (ox.blk x hx).1)
      replace hbw := hbw.keep k9 (fun hm => hsep _ hm rfl)
      refine aT (aW [(5, _), (6, _), (74, _), (75, _)] ⟨rfl, rfl, rfl, rfl, trivial⟩ (bg (aR (aU (cI rfl rfl (by omega)) rfl (ogm rfl rfl (aT ?_))))))
      have hP2 : ∀ j, j < i + 1 → (upd h i z46) j = byteN (a.val : Int) j := by
        intro j hj
        by_cases e : j = i
        · subst e
          have a1 := h27; have b1 := h28; have c1 := hwb j (by omega)
          unfold Eqn at a1 b1
          rw [cO, b1, a1]; exact c1
        · rw [bH _ _ e]; exact hP j (by omega)
      refine cA (Γ := Nat × (Nat → Int)) ⟨i + 1, _⟩ ⟨rfl, rfl, rfl, rfl, trivial⟩ (by (try dsimp only); omega) (⟨by omega, hP2, ox2, hbw, hB⟩)
    · -- no
      refine bE rfl (aS (aR (ogm rfl rfl (oga rfl rfl (aT (bD hfin Tryd.results55 rfl ?_))))))
      have hcs : iv .u8 32 h = bv (fpB a) := by
        rw [pD]; exact eL (fun j _ hj => hP j (by omega))
      rw [hcs] at ox
      exact ⟨by unfold OwnB; rw [av]; exact ox, hB⟩
  · -- no
    refine a8 (aS (aR (aU (aa aA aY rfl rfl (by decide)) rfl (aU (aZ ai rfl hb2 rfl) rfl (aU (aa aA aY rfl rfl (by decide)) rfl (aU (aZ ai rfl hb2 rfl) rfl (ag (e' := ((hh2 1) * 2251799813685248) % 18446744073709551616) (lo := 0) (hi := 18446744073709551615) (dB (m := 2251799813685248) rfl rfl (by decide) rfl) (cH rfl _) (In.wk (au _ (by decide)) rfl) rfl (fun z47 h29 r40 => ag (e' := (hh2 0) + z47) (lo := 0) (hi := 18446744073709551615) (du rfl rfl) (bq 51 (m := 2251799813685248) r40 rfl r11 rfl rfl rfl rfl (cN h29 (bN _ (by decide))) rfl rfl) (In.wk (ew (k := .u64) rfl (bq 51 (m := 2251799813685248) r40 rfl r11 rfl rfl rfl rfl (cN h29 (bN _ (by decide))) rfl rfl)) rfl) rfl (fun z48 h30 r41 => ?_)))))))))
    refine aU (aa aA aY rfl rfl (by decide)) rfl (aU (aZ ai rfl hb2 rfl) rfl (ag (e' := (hh2 1) / 8192) (lo := 0) (hi := 274877906943) (bl (m := 8192) rfl rfl (by decide) rfl) (rfl) (In.wk (bB r7 (by decide)) rfl) rfl (fun z49 h31 r42 => aU (aa aA aY rfl rfl (by decide)) rfl (aU (aZ ai rfl hb2 rfl) rfl (ag (e' := ((hh2 2) * 274877906944) % 18446744073709551616) (lo := 0) (hi := 18446744073709551615) (dB (m := 274877906944) rfl rfl (by decide) rfl) (cH rfl _) (In.wk (au _ (by decide)) rfl) rfl (fun z50 h32 r43 => ag (e' := z49 + z50) (lo := 0) (hi := 18446744073709551615) (du rfl rfl) (bq 38 (m := 274877906944) r43 rfl r42 rfl rfl rfl rfl (cN h32 (bN _ (by decide))) rfl rfl) (In.wk (ew (k := .u64) rfl (bq 38 (m := 274877906944) r43 rfl r42 rfl rfl rfl rfl (cN h32 (bN _ (by decide))) rfl rfl)) rfl) rfl (fun z51 h33 r44 => aU (aa aA aY rfl rfl (by decide)) rfl (aU (aZ ai rfl hb2 rfl) rfl ?_))))))))
    refine ag (e' := (hh2 2) / 67108864) (lo := 0) (hi := 33554431) (bl (m := 67108864) rfl rfl (by decide) rfl) (rfl) (In.wk (bB r8 (by decide)) rfl) rfl (fun z52 h34 r45 => aU (aa aA aY rfl rfl (by decide)) rfl (aU (aZ ai rfl hb2 rfl) rfl (ag (e' := ((hh2 3) * 33554432) % 18446744073709551616) (lo := 0) (hi := 18446744073709551615) (dB (m := 33554432) rfl rfl (by decide) rfl) (cH rfl _) (In.wk (au _ (by decide)) rfl) rfl (fun z53 h35 r46 => ag (e' := z52 + z53) (lo := 0) (hi := 18446744073709551615) (du rfl rfl) (bq 25 (m := 33554432) r46 rfl r45 rfl rfl rfl rfl (cN h35 (bN _ (by decide))) rfl rfl) (In.wk (ew (k := .u64) rfl (bq 25 (m := 33554432) r46 rfl r45 rfl rfl rfl rfl (cN h35 (bN _ (by decide))) rfl rfl)) rfl) rfl (fun z54 h36 r47 => aU (aa aA aY rfl rfl (by decide)) rfl (aU (aZ ai rfl hb2 rfl) rfl (ag (e' := (hh2 3) / 549755813888) (lo := 0) (hi := 4095) (bl (m := 549755813888) rfl rfl (by decide) rfl) (rfl) (In.wk (bB r9 (by decide)) rfl) rfl (fun z55 h37 r48 => aU (aa aA aY rfl rfl (by decide)) rfl ?_))))))))
    refine aU (aZ ai rfl hb2 rfl) rfl (ag (e' := (hh2 4) * 4096) (lo := 0) (hi := 9223372036854771712) (dB (m := 4096) rfl rfl (by decide) rfl) (am (cn r10 (by decide)) rfl) (In.wk (cn r10 (by decide)) rfl) rfl (fun z56 h38 r49 => ag (e' := z55 + z56) (lo := 0) (hi := 9223372036854775807) (du rfl rfl) (bq 12 (m := 4096) r49 rfl r48 rfl rfl rfl rfl (cN h38 (Int.mul_emod_left _ _)) rfl rfl) (In.wk (al r48 r49) rfl) rfl (fun z57 h39 r50 => aU (cx (idx := [0, 1, 2, 3]) (xs := [.tmp 49, .tmp 56, .tmp 63, .tmp 70]) (vs := [_, _, _, _]) (css := [[.int .u64 z48], [.int .u64 z51], [.int .u64 z54], [.int .u64 z57]]) (out := [.int .u64 z48, .int .u64 z51, .int .u64 z54, .int .u64 z57]) aG aY gd (cW 4 1) rfl rfl ⟨rfl, rfl, rfl, rfl, trivial⟩ rfl rfl) rfl (a9 (ab gd) rfl ?_))))
    rintro _ w26 ⟨b4, rfl, eb4, hb18, k25, z58⟩
    have ge_b4 : w.heap.size ≤ b4 := by have := hB.size; omega
    have ne_b1_b4 : b1 ≠ b4 := by have := hb2.lt; omega
    have ne_b2_b4 : b2 ≠ b4 := by have := hb13.lt; omega
    obtain ⟨hB, hb2, hb13⟩ := cX k25 hB hb2 hb13
    clear eb4 z58
    refine a6 (ak gd rfl rfl rfl (by simp only [List.forall_mem_cons]; refine ⟨rfl, rfl, rfl, rfl, fun v hv => by cases hv⟩) hb18 rfl) ?_
    rintro _ w27 ⟨hb19, k26, z59⟩
    replace hb2 := hb2.keep k26 (nm ne_b1_b4)
    replace hb13 := hb13.keep k26 (nm ne_b2_b4)
    replace hB := hB.new k26 (nw ge_b4)
    clear z59
    replace hb19 : Bk w27 b4 _ [.int .u64 z48, .int .u64 z51, .int .u64 z54, .int .u64 z57] := hb19
    refine aT (aS (aR (a9 (mu aB cZ rfl rfl (by omega) (by constructor <;> omega)) rfl ?_)))
    rintro q w5 ⟨o5, _, _, k5, _⟩
    have hsep : ∀ x, x ∈ vblk q → x ≠ b4 := fun x hx => by have h1 := (o5.blk x hx).1; have h2 := hb19.lt; omega
    replace o5 : Own w5 w.heap.size 5 1 q 32 (iv .u8 32 (fun _ => 0)) := by rw [iv, cG]; exact o5.lo hB.size
    obtain ⟨hB, hb2, hb13, hb19⟩ := cy k5 hB hb2 hb13 hb19
    refine oga rfl rfl (aT (aW [(5, _), (6, _)] ⟨rfl, rfl, trivial⟩ (aS (aS (aR (ogm rfl rfl (aU (bp aB rfl (by first | assumption | exact Own.rd (by assumption) | exact Rd.pK (by assumption) hB | exact Own.rd (Own.pK (by assumption) hB))) rfl (ogm rfl rfl ?_))))))))
    refine aT (a5 ?_)
    have hv2 : dC hh2 = hh2 0 + hh2 1 * 2251799813685248 + hh2 2 * 5070602400912917605986812821504 + hh2 3 * 11417981541647679048466287755595961091061972992 + hh2 4 * 25711008708143844408671393477458601640355247900524685364822016 := rfl
    have hV0 : In ((hh2 0) + (hh2 1) * 2251799813685248 + (hh2 2) * 5070602400912917605986812821504 + (hh2 3) * 11417981541647679048466287755595961091061972992 + (hh2 4) * 25711008708143844408671393477458601640355247900524685364822016) 0 (57896044618658097711785492504343953926634992332820282019728792003956564819949 - 1) := by clear e01 e11 e21 e31 e41 g01 g11 g21 g31 g41 e02 e12 e22 e32 e42 g02 g12 g22 g32 g42 gv1 gv2; simp only [Eqn, In] at h1 h2 h3 h4 h5 h6 h7 h8 h9 h10 h11 h12 h13 h14 r11 r7 r8 r9 r10 ⊢; omega
    have hVa : fp ((hh2 0) + (hh2 1) * 2251799813685248 + (hh2 2) * 5070602400912917605986812821504 + (hh2 3) * 11417981541647679048466287755595961091061972992 + (hh2 4) * 25711008708143844408671393477458601640355247900524685364822016) = a := by rw [← hfv]; exact iH (-(c41 + c42)) (by have gv1 := gv1; have gv2 := gv2; clear e01 e11 e21 e31 e41 g01 g11 g21 g31 g41 e02 e12 e22 e32 e42 g02 g12 g22 g32 g42; simp only [Eqn, In] at h1 h2 h3 h4 h5 h6 h7 h8 h9 h10 h11 h12 h13 h14 r11 r7 r8 r9 r10; omega)
    have hval : (a.val : Int) = ((hh2 0) + (hh2 1) * 2251799813685248 + (hh2 2) * 5070602400912917605986812821504 + (hh2 3) * 11417981541647679048466287755595961091061972992 + (hh2 4) * 25711008708143844408671393477458601640355247900524685364822016) := nJ hVa hV0.1 (by have := hV0.2; omega)
    have hpw := ia (In.wk r11 rfl) (In.wk r7 rfl) (In.wk r8 rfl) (In.wk r9 rfl) (In.wk r10 rfl)
    have hsum : (a.val : Int) = z48 + z51 * 18446744073709551616 + z54 * 340282366920938463463374607431768211456 + z57 * 6277101735386680763835789423207666416102355444464034512896 := by rw [hval]; clear hval hVa hV0; simp only [Eqn] at h39 h38 h37 h36 h35 h34 h33 h32 h31 h30 h29; subst h39 h38 h37 h36 h35 h34 h33 h32 h31 h30 h29; exact hpw
    have hwb : ∀ i : Nat, i < 32 → _ := fun i hi => ga (In.wk r41 rfl) (In.wk r44 rfl) (In.wk r47 rfl) (In.wk r50 rfl) hsum (i := i) hi
    have hwi := w4_in (In.wk r41 rfl) (In.wk r44 rfl) (In.wk r47 rfl) (In.wk r50 rfl)
    replace hb19 : Bk w5 b4 91 (iv .u64 4 (vecN [z48, z51, z54, z57])) := hb19
    refine bi (Γ := Nat × (Nat → Int)) (fun ⟨i, h⟩ => [(5, .pointer (some ⟨b4, 0, none⟩)), (6, q), (74, .int .i64 32), (75, .int .i64 (i : Int))]) (fun ⟨i, h⟩ W => i ≤ 32 ∧ (∀ j, j < i → h j = byteN (a.val : Int) j) ∧ Own W w.heap.size 5 1 q 32 (iv .u8 32 h) ∧ Bk W b4 91 (iv .u64 4 (vecN [z48, z51, z54, z57])) ∧ Keep [] w W) (fun ⟨i, h⟩ => 32 - i) ⟨0, _⟩ ⟨rfl, rfl, rfl, rfl, trivial⟩ (⟨by decide, fun j hj => by omega, o5, hb19, hB⟩) ?_
    rintro ⟨i, h⟩ w29 ⟨hi0, hP, ox, hbw, hB⟩
    refine aW [(5, .pointer (some ⟨b4, 0, none⟩)), (6, q), (74, .int .i64 32), (75, .int .i64 (i : Int))] ⟨rfl, rfl, rfl, rfl, trivial⟩ (aS (aR (aU (bW rfl rfl) rfl (aT (aS (bo rfl (fun hc3 => ?_) (fun hc3 => ?_)))))))
    · -- yes
      refine a8 (aS (a5 (aS (aR (ogm rfl rfl (oga rfl rfl (aT (aR ?_))))))))
      refine ogm rfl rfl (ogm rfl rfl (ogm rfl rfl (aU (eg rfl rfl (by omega)) rfl (aU (ap (i / 8) aG aY rfl rfl (by omega) (by omega)) rfl (ag (e' := (vecN [z48, z51, z54, z57]) (i / 8)) (lo := 0) (hi := 18446744073709551615) (aZ ai rfl hbw (bO (by omega))) (rfl) ((hwi _)) rfl (fun z61 h40 r51 => ogm rfl rfl (aU (e9 rfl rfl (by omega)) rfl (aU (gN rfl rfl (by omega)) rfl ?_))))))))
      refine aU (fa rfl rfl (by constructor <;> (try simp only [IntKind.bits]) <;> omega)) rfl (ag (e' := (z61 / 2 ^ ((8 * ((i : Int) % 8)) : Int).toNat) % 256) (lo := 0) (hi := 255) (gC (by rw [aJ]; rfl) aK rfl) (cH rfl _) (In.wk (au _ (by decide)) rfl) rfl (fun z62 h41 r52 => aU (dV aB cZ rfl (by first | assumption | exact Own.rd (by assumption) | exact Rd.pK (by assumption) hB | exact Own.rd (Own.pK (by assumption) hB)) rfl (by omega)) rfl (a6 (iO (u := .int .u8 z62) cZ rfl rfl rfl ox (by rw [bh]; omega)) ?_)))
      rintro _ w9 ⟨ox2, k9, z9⟩
      rw [show (i : Int).toNat * 1 = i by omega, jR] at ox2
      replace hB := hB.new k9 (fun x hx => .inl (ox.blk x hx).1)
      replace hbw := hbw.keep k9 (fun hm => hsep _ hm rfl)
      refine aT (aW [(5, _), (6, _), (74, _), (75, _)] ⟨rfl, rfl, rfl, rfl, trivial⟩ (bg (aR (aU (cI rfl rfl (by omega)) rfl (ogm rfl rfl (aT ?_))))))
      have hP2 : ∀ j, j < i + 1 → (upd h i z62) j = byteN (a.val : Int) j := by
        intro j hj
        by_cases e : j = i
        · subst e
          have a1 := h40; have b1 := h41; have c1 := hwb j (by omega)
          unfold Eqn at a1 b1
          rw [cO, b1, a1]; exact c1
        · rw [bH _ _ e]; exact hP j (by omega)
      refine cA (Γ := Nat × (Nat → Int)) ⟨i + 1, _⟩ ⟨rfl, rfl, rfl, rfl, trivial⟩ (by (try dsimp only); omega) (⟨by omega, hP2, ox2, hbw, hB⟩)
    · -- no
      refine bE rfl (aS (aR (ogm rfl rfl (oga rfl rfl (aT (bD hfin Tryd.results55 rfl ?_))))))
      have hcs : iv .u8 32 h = bv (fpB a) := by
        rw [pD]; exact eL (fun j _ hj => hP j (by omega))
      rw [hcs] at ox
      exact ⟨by unfold OwnB; rw [av]; exact ox, hB⟩
theorem fV (f g : Nat → Int) (a b : Fp) (hf : El f a) (hg : El g b) (w : World) : Rets Tryd.prog 70 [.agg (iv .u64 5 f).toArray, .agg (iv .u64 5 g).toArray] w (fun v w' => v = .bool (decide (a = b)) ∧ Keep [] w w') := by
 have hB : Keep [] w w := Keep.refl _ _
 refine a7 Tryd.func70 rfl (by decide) Tryd.ntmps70 rfl (fun fin _ hfin => aS (aR (a9 (bc (cs := [.int .u64 (f 0), .int .u64 (f 1), .int .u64 (f 2), .int .u64 (f 3), .int .u64 (f 4)]) rfl rfl) rfl ?_)))
 rintro _ w1 ⟨b1, rfl, eb1, hb1, k1, z1⟩
 replace hB := hB.trans k1
 clear eb1 z1
 refine a9 (bc (cs := [.int .u64 (g 0), .int .u64 (g 1), .int .u64 (g 2), .int .u64 (g 3), .int .u64 (g 4)]) rfl rfl) rfl ?_
 rintro _ w2 ⟨b2, rfl, eb2, hb2, k2, z2⟩
 obtain ⟨hB, hb1⟩ := bT k2 hB hb1
 clear eb2 z2
 refine oga rfl rfl (aT (aS (bz 9 [0, 4, 1, 2, 3, 5, 6, 7, 8] [1, 5] [] mixed [(2, _), (3, _), (4, _)] ⟨rfl, rfl, rfl, trivial⟩ (by decide +kernel) rfl (fun w3 k3 => ?_))))
 obtain ⟨hB, hb1, hb2⟩ := cX k3 hB hb1 hb2
 refine ao 2 rfl rfl rfl rfl (fun W' kk => aX (cs' := [_, _, _, _, _]) ay ah rfl (Bk.pK hb1 kk) rfl rfl) (ao 3 rfl rfl rfl rfl (fun W' kk => aX (cs' := [_, _, _, _, _]) ay ah rfl (Bk.pK hb2 kk) rfl rfl) (bx [(5, _)] rfl rfl ⟨rfl, trivial⟩ rfl (aV (vs := [_]) rfl (el _ _ hf _)) ?_))
 rintro v1 w4 ⟨o1, k4⟩
 refine ⟨k4, ?_⟩
 replace hB := hB.trans k4
 refine ao 6 rfl rfl rfl rfl (fun W' kk => g_sap Tryd.underlying114 rfl (by first | exact Rd.pK ‹_› kk | exact Rd.pK (Own.rd ‹_›) kk | exact Rd.pK (Rd.pK ‹_› hB) kk | exact Rd.pK (Own.rd (Own.pK ‹_› hB)) kk) (by simp only [Fld.av]; rfl) rfl) (ao 7 rfl rfl rfl rfl (fun W' kk => oS (xs := (fpB a)) ag114 ty114 rfl (by first | exact Rd.pK ‹_› kk | exact Rd.pK (Own.rd ‹_›) kk | exact Rd.pK (Rd.pK ‹_› hB) kk | exact Rd.pK (Own.rd (Own.pK ‹_› hB)) kk) (Fld.av _) rfl) (bx [(9, _)] rfl rfl ⟨rfl, trivial⟩ rfl (aV (vs := [_]) rfl (el _ _ hg _)) ?_))
 rintro v2 w5 ⟨o2, k5⟩
 refine ⟨k5, ?_⟩
 replace o1 := o1.pK k5
 replace hB := hB.trans k5
 refine ao 10 rfl rfl rfl rfl (fun W' kk => g_sap Tryd.underlying114 rfl (by first | exact Rd.pK ‹_› kk | exact Rd.pK (Own.rd ‹_›) kk | exact Rd.pK (Rd.pK ‹_› hB) kk | exact Rd.pK (Own.rd (Own.pK ‹_› hB)) kk) (by simp only [Fld.av]; rfl) rfl) (ao 11 rfl rfl rfl rfl (fun W' kk => oS (xs := (fpB b)) ag114 ty114 rfl (by first | exact Rd.pK ‹_› kk | exact Rd.pK (Own.rd ‹_›) kk | exact Rd.pK (Rd.pK ‹_› hB) kk | exact Rd.pK (Own.rd (Own.pK ‹_› hB)) kk) (Fld.av _) rfl) (ct 8 12 rfl rfl rfl rfl rfl (fun W' kk => g_eqB Tryd.underlying114 aK cZ.sizeOf (by kernel_rfl) rfl rfl (Fld.av _) (Fld.av _)) (cS (oga rfl rfl (aT (aW [(4, _)] ⟨rfl, trivial⟩ (bD hfin Tryd.results70 rfl ?_)))))))
 exact ⟨by rw [fpB_dec], hB⟩
theorem fO (f : Nat → Int) (a : Fp) (hf : El f a) (w : World) : Rets Tryd.prog 72 [.agg (iv .u64 5 f).toArray] w (fun v w' => v = .bool (decide (a = 0)) ∧ Keep [] w w') := by
 have hB : Keep [] w w := Keep.refl _ _
 refine a7 Tryd.func72 rfl (by decide) Tryd.ntmps72 rfl (fun fin _ hfin => aS (aR (a9 (bc (cs := [.int .u64 (f 0), .int .u64 (f 1), .int .u64 (f 2), .int .u64 (f 3), .int .u64 (f 4)]) rfl rfl) rfl ?_)))
 rintro _ w1 ⟨b1, rfl, eb1, hb1, k1, z1⟩
 replace hB := hB.trans k1
 clear eb1 z1
 refine oga rfl rfl (aT (aS (aR (aU (aX (cs' := [_, _, _, _, _]) ay ah rfl hb1 rfl rfl) rfl (aU (cx (idx := []) (xs := []) (vs := []) (css := []) (out := [.int .u64 0, .int .u64 0, .int .u64 0, .int .u64 0, .int .u64 0]) aA aY ah (cW 5 1) rfl rfl trivial rfl rfl) rfl (a9 (aV (vs := [_, _]) rfl (fV _ _ _ _ hf eU _)) rfl ?_))))))
 rintro _ w2 ⟨rfl, k2⟩
 replace hB := hB.trans k2
 refine oga rfl rfl (aT (bD hfin Tryd.results72 rfl ?_))
 exact ⟨rfl, hB⟩
theorem cz (f g : Nat → Int) (a b : Fp) (hf : El f a) (hg : El g b) (w : World) : Rets Tryd.prog 41 [.agg (iv .u64 5 f).toArray, .agg (iv .u64 5 g).toArray] w (fun v w' => ∃ h, v = .agg (iv .u64 5 h).toArray ∧ El h (a + b) ∧ Keep [] w w') := by
 have hB : Keep [] w w := Keep.refl _ _
 refine a7 Tryd.func41 rfl (by decide) Tryd.ntmps41 rfl (fun fin _ hfin => aS (aR (a9 (bc (cs := [.int .u64 (f 0), .int .u64 (f 1), .int .u64 (f 2), .int .u64 (f 3), .int .u64 (f 4)]) rfl rfl) rfl ?_)))
 rintro _ w1 ⟨b1, rfl, eb1, hb1, k1, z1⟩
 replace hB := hB.trans k1
 clear eb1 z1
 refine a9 (bc (cs := [.int .u64 (g 0), .int .u64 (g 1), .int .u64 (g 2), .int .u64 (g 3), .int .u64 (g 4)]) rfl rfl) rfl ?_
 rintro _ w2 ⟨b2, rfl, eb2, hb2, k2, z2⟩
 obtain ⟨hB, hb1⟩ := bT k2 hB hb1
 clear eb2 z2
 refine a9 (ab aj) rfl ?_
 rintro _ w3 ⟨b3, rfl, eb3, hb3, k3, z3⟩
 have ge_b3 : w.heap.size ≤ b3 := by have := hB.size; omega
 obtain ⟨hB, hb1, hb2⟩ := cX k3 hB hb1 hb2
 clear eb3 z3
 refine aT (aS (aR (aU (cT aN rfl ah (by decide) rfl) rfl (aU (aX (cs' := [_, _, _, _, _]) ay ah rfl hb1 rfl rfl) rfl (aU (cT aN rfl ah (by decide) rfl) rfl (aU (aX (cs' := [_, _, _, _, _]) ay ah rfl hb2 rfl rfl) rfl (a9 (aV (vs := [_, _]) rfl (add_any _ _ _ _ hf hg _)) rfl ?_)))))))
 rintro _ w4 ⟨hh1, rfl, E1, k4⟩
 obtain ⟨hB, hb3⟩ := bT k4 hB hb3
 refine aU (cd (idx := [0]) (xs := [.tmp 9]) (vs := [_]) (css := [[_, _, _, _, _]]) (out := [_, _, _, _, _]) jx aj rfl rfl ⟨rfl, trivial⟩ rfl rfl) rfl (a6 (ak aj rfl rfl rfl (by simp only [List.forall_mem_cons]; refine ⟨rfl, rfl, rfl, rfl, rfl, fun v hv => by cases hv⟩) hb3 rfl) ?_)
 rintro _ w5 ⟨hb4, k5, z4⟩
 replace hB := hB.new k5 (nw ge_b3)
 clear z4
 replace hb4 := cv (g := hh1) hb4
 refine aT (aW [(4, _)] ⟨rfl, trivial⟩ (bP hfin Tryd.results41 rfl (ae bG aj hb4 rfl)  ?_))
 exact ⟨hh1, rfl, E1, hB⟩
theorem dL (f g : Nat → Int) (a b : Fp) (hf : El f a) (hg : El g b) (w : World) : Rets Tryd.prog 39 [.agg (iv .u64 5 f).toArray, .agg (iv .u64 5 g).toArray] w (fun v w' => ∃ h, v = .agg (iv .u64 5 h).toArray ∧ El h (a - b) ∧ Keep [] w w') := by
 have hB : Keep [] w w := Keep.refl _ _
 refine a7 Tryd.func39 rfl (by decide) Tryd.ntmps39 rfl (fun fin _ hfin => aS (aR (a9 (bc (cs := [.int .u64 (f 0), .int .u64 (f 1), .int .u64 (f 2), .int .u64 (f 3), .int .u64 (f 4)]) rfl rfl) rfl ?_)))
 rintro _ w1 ⟨b1, rfl, eb1, hb1, k1, z1⟩
 replace hB := hB.trans k1
 clear eb1 z1
 refine a9 (bc (cs := [.int .u64 (g 0), .int .u64 (g 1), .int .u64 (g 2), .int .u64 (g 3), .int .u64 (g 4)]) rfl rfl) rfl ?_
 rintro _ w2 ⟨b2, rfl, eb2, hb2, k2, z2⟩
 obtain ⟨hB, hb1⟩ := bT k2 hB hb1
 clear eb2 z2
 refine a9 (ab aj) rfl ?_
 rintro _ w3 ⟨b3, rfl, eb3, hb3, k3, z3⟩
 have ge_b3 : w.heap.size ≤ b3 := by have := hB.size; omega
 obtain ⟨hB, hb1, hb2⟩ := cX k3 hB hb1 hb2
 clear eb3 z3
 refine aT (aS (aR (aU (cT aN rfl ah (by decide) rfl) rfl (aU (aX (cs' := [_, _, _, _, _]) ay ah rfl hb1 rfl rfl) rfl (aU (cT aN rfl ah (by decide) rfl) rfl (aU (aX (cs' := [_, _, _, _, _]) ay ah rfl hb2 rfl rfl) rfl (a9 (aV (vs := [_, _]) rfl (jC _ _ _ _ hf hg _)) rfl ?_)))))))
 rintro _ w4 ⟨hh1, rfl, E1, k4⟩
 obtain ⟨hB, hb3⟩ := bT k4 hB hb3
 refine aU (cd (idx := [0]) (xs := [.tmp 9]) (vs := [_]) (css := [[_, _, _, _, _]]) (out := [_, _, _, _, _]) jx aj rfl rfl ⟨rfl, trivial⟩ rfl rfl) rfl (a6 (ak aj rfl rfl rfl (by simp only [List.forall_mem_cons]; refine ⟨rfl, rfl, rfl, rfl, rfl, fun v hv => by cases hv⟩) hb3 rfl) ?_)
 rintro _ w5 ⟨hb4, k5, z4⟩
 replace hB := hB.new k5 (nw ge_b3)
 clear z4
 replace hb4 := cv (g := hh1) hb4
 refine aT (aW [(4, _)] ⟨rfl, trivial⟩ (bP hfin Tryd.results39 rfl (ae bG aj hb4 rfl)  ?_))
 exact ⟨hh1, rfl, E1, hB⟩
theorem az (f g : Nat → Int) (a b : Fp) (hf : El f a) (hg : El g b) (w : World) : Rets Tryd.prog 27 [.agg (iv .u64 5 f).toArray, .agg (iv .u64 5 g).toArray] w (fun v w' => ∃ h, v = .agg (iv .u64 5 h).toArray ∧ El h (a * b) ∧ Keep [] w w') := by
 have hB : Keep [] w w := Keep.refl _ _
 refine a7 Tryd.func27 rfl (by decide) Tryd.ntmps27 rfl (fun fin _ hfin => aS (aR (a9 (bc (cs := [.int .u64 (f 0), .int .u64 (f 1), .int .u64 (f 2), .int .u64 (f 3), .int .u64 (f 4)]) rfl rfl) rfl ?_)))
 rintro _ w1 ⟨b1, rfl, eb1, hb1, k1, z1⟩
 replace hB := hB.trans k1
 clear eb1 z1
 refine a9 (bc (cs := [.int .u64 (g 0), .int .u64 (g 1), .int .u64 (g 2), .int .u64 (g 3), .int .u64 (g 4)]) rfl rfl) rfl ?_
 rintro _ w2 ⟨b2, rfl, eb2, hb2, k2, z2⟩
 obtain ⟨hB, hb1⟩ := bT k2 hB hb1
 clear eb2 z2
 refine a9 (ab aj) rfl ?_
 rintro _ w3 ⟨b3, rfl, eb3, hb3, k3, z3⟩
 have ge_b3 : w.heap.size ≤ b3 := by have := hB.size; omega
 obtain ⟨hB, hb1, hb2⟩ := cX k3 hB hb1 hb2
 clear eb3 z3
 refine aT (aS (aR (aU (cT aN rfl ah (by decide) rfl) rfl (aU (aX (cs' := [_, _, _, _, _]) ay ah rfl hb1 rfl rfl) rfl (aU (cT aN rfl ah (by decide) rfl) rfl (aU (aX (cs' := [_, _, _, _, _]) ay ah rfl hb2 rfl rfl) rfl (a9 (aV (vs := [_, _]) rfl (cF _ _ _ _ hf hg _)) rfl ?_)))))))
 rintro _ w4 ⟨hh1, rfl, E1, k4⟩
 obtain ⟨hB, hb3⟩ := bT k4 hB hb3
 refine aU (cd (idx := [0]) (xs := [.tmp 9]) (vs := [_]) (css := [[_, _, _, _, _]]) (out := [_, _, _, _, _]) jx aj rfl rfl ⟨rfl, trivial⟩ rfl rfl) rfl (a6 (ak aj rfl rfl rfl (by simp only [List.forall_mem_cons]; refine ⟨rfl, rfl, rfl, rfl, rfl, fun v hv => by cases hv⟩) hb3 rfl) ?_)
 rintro _ w5 ⟨hb4, k5, z4⟩
 replace hB := hB.new k5 (nw ge_b3)
 clear z4
 replace hb4 := cv (g := hh1) hb4
 refine aT (aW [(4, _)] ⟨rfl, trivial⟩ (bP hfin Tryd.results27 rfl (ae bG aj hb4 rfl)  ?_))
 exact ⟨hh1, rfl, E1, hB⟩
theorem jL (f : Nat → Int) (a : Fp) (hf : El f a) (w : World) : Rets Tryd.prog 26 [.agg (iv .u64 5 f).toArray] w (fun v w' => ∃ h, v = .agg (iv .u64 5 h).toArray ∧ El h (inv a) ∧ Keep [] w w') := by
 have hB : Keep [] w w := Keep.refl _ _
 refine a7 Tryd.func26 rfl (by decide) Tryd.ntmps26 rfl (fun fin _ hfin => aS (aR (a9 (bc (cs := [.int .u64 (f 0), .int .u64 (f 1), .int .u64 (f 2), .int .u64 (f 3), .int .u64 (f 4)]) rfl rfl) rfl ?_)))
 rintro _ w1 ⟨b1, rfl, eb1, hb1, k1, z1⟩
 replace hB := hB.trans k1
 clear eb1 z1
 refine a9 (ab aj) rfl ?_
 rintro _ w2 ⟨b2, rfl, eb2, hb2, k2, z2⟩
 have ge_b2 : w.heap.size ≤ b2 := by have := hB.size; omega
 obtain ⟨hB, hb1⟩ := bT k2 hB hb1
 clear eb2 z2
 refine aT (aS (aR (aU (cT aN rfl ah (by decide) rfl) rfl (aU (aX (cs' := [_, _, _, _, _]) ay ah rfl hb1 rfl rfl) rfl (a9 (aV (vs := [_]) rfl (lm _ _ hf _)) rfl ?_)))))
 rintro _ w3 ⟨hh1, rfl, E1, k3⟩
 obtain ⟨hB, hb2⟩ := bT k3 hB hb2
 refine aU (cd (idx := [0]) (xs := [.tmp 5]) (vs := [_]) (css := [[_, _, _, _, _]]) (out := [_, _, _, _, _]) jx aj rfl rfl ⟨rfl, trivial⟩ rfl rfl) rfl (a6 (ak aj rfl rfl rfl (by simp only [List.forall_mem_cons]; refine ⟨rfl, rfl, rfl, rfl, rfl, fun v hv => by cases hv⟩) hb2 rfl) ?_)
 rintro _ w4 ⟨hb3, k4, z3⟩
 replace hB := hB.new k4 (nw ge_b2)
 clear z3
 replace hb3 := cv (g := hh1) hb3
 refine aT (bP hfin Tryd.results26 rfl (ae bG aj hb3 rfl)  ?_)
 exact ⟨hh1, rfl, E1, hB⟩
theorem dr (f : Nat → Int) (a : Fp) (hf : El f a) (w : World) : Rets Tryd.prog 28 [.agg (iv .u64 5 f).toArray] w (fun v w' => OwnB w' w.heap.size v (fpB a) ∧ Keep [] w w') := by
 have hB : Keep [] w w := Keep.refl _ _
 refine a7 Tryd.func28 rfl (by decide) Tryd.ntmps28 rfl (fun fin _ hfin => aS (aR (a9 (bc (cs := [.int .u64 (f 0), .int .u64 (f 1), .int .u64 (f 2), .int .u64 (f 3), .int .u64 (f 4)]) rfl rfl) rfl ?_)))
 rintro _ w1 ⟨b1, rfl, eb1, hb1, k1, z1⟩
 replace hB := hB.trans k1
 clear eb1 z1
 refine oga rfl rfl (aT (aS (aR (aU (cT aN rfl ah (by decide) rfl) rfl (aU (aX (cs' := [_, _, _, _, _]) ay ah rfl hb1 rfl rfl) rfl (a9 (aV (vs := [_]) rfl (el _ _ hf _)) rfl ?_))))))
 rintro v1 w2 ⟨o1, k2⟩
 have gl_o1 := hB.size
 replace hB := hB.trans k2
 refine oga rfl rfl (aT (bD hfin Tryd.results28 rfl ?_))
 exact ⟨o1.lo gl_o1, hB⟩
theorem mT (n : Int) (hn : In n 0 18446744073709551615) (w : World) : Rets Tryd.prog 57 [.int .u64 n] w (fun v w' => ∃ h, v = .agg (iv .u64 5 h).toArray ∧ El h (fp n) ∧ Keep [] w w') := by
 have hB : Keep [] w w := Keep.refl _ _
 refine a7 Tryd.func57 rfl (by decide) Tryd.ntmps57 rfl (fun fin _ hfin => aS (aR (a9 (ab aj) rfl ?_)))
 rintro _ w1 ⟨b1, rfl, eb1, hb1, k1, z1⟩
 have ge_b1 : w.heap.size ≤ b1 := by have := hB.size; omega
 replace hB := hB.trans k1
 clear eb1 z1
 refine aT (aS (aR (ogm rfl rfl (ag (e' := n % 2251799813685248) (lo := 0) (hi := 2251799813685247) (cY rfl rfl) (bd 51 hn rfl rfl rfl rfl rfl rfl) (In.wk (au _ (by decide)) rfl) rfl (fun z2 h1 r1 => ogm rfl rfl (ag (e' := n / 2251799813685248) (lo := 0) (hi := 8191) (bl (m := 2251799813685248) rfl rfl (by decide) rfl) (rfl) (In.wk (bB hn (by decide)) rfl) rfl (fun z3 h2 r2 => aU (cx (idx := [0, 1]) (xs := [.tmp 4, .tmp 6]) (vs := [_, _]) (css := [[.int .u64 z2], [.int .u64 z3]]) (out := [.int .u64 z2, .int .u64 z3, .int .u64 0, .int .u64 0, .int .u64 0]) aA aY ah (cW 5 1) rfl rfl ⟨rfl, rfl, trivial⟩ rfl rfl) rfl (aU (cd (idx := [0]) (xs := [.tmp 7]) (vs := [_]) (css := [[_, _, _, _, _]]) (out := [_, _, _, _, _]) jx aj rfl rfl ⟨rfl, trivial⟩ rfl rfl) rfl (a6 (ak aj rfl rfl rfl (by simp only [List.forall_mem_cons]; refine ⟨rfl, rfl, rfl, rfl, rfl, fun v hv => by cases hv⟩) hb1 rfl) ?_)))))))))
 rintro _ w2 ⟨hb2, k2, z4⟩
 replace hB := hB.new k2 (nw ge_b1)
 clear z4
 replace hb2 : Bk w2 b1 _ [.int .u64 z2, .int .u64 z3, .int .u64 0, .int .u64 0, .int .u64 0] := hb2
 refine aT (bP hfin Tryd.results57 rfl (ae bG aj hb2 rfl)  ?_)
 simp only [Eqn, In] at h1 r1 h2 r2 hn
 exact ⟨(vecN [z2, z3, 0, 0, 0]), rfl, ⟨by show In z2 _ _; unfold In; omega, by show In z3 _ _; unfold In; omega, (by show In 0 _ _; decide), (by show In 0 _ _; decide), (by show In 0 _ _; decide), by refine (iH (b := n) 0 ?_); show z2 + z3 * 2251799813685248 + 0 * _ + 0 * _ + 0 * _ = _; omega⟩, hB⟩
theorem gF (n : Int) (hn : In n 0 9223372036854775807) (w : World) : Rets Tryd.prog 37 [.int .i64 n] w (fun v w' => ∃ h, v = .agg (iv .u64 5 h).toArray ∧ El h (fp n) ∧ Keep [] w w') := by
 have hB : Keep [] w w := Keep.refl _ _
 refine a7 Tryd.func37 rfl (by decide) Tryd.ntmps37 rfl (fun fin _ hfin => aS (aR (a9 (ab aj) rfl ?_)))
 rintro _ w1 ⟨b1, rfl, eb1, hb1, k1, z1⟩
 have ge_b1 : w.heap.size ≤ b1 := by have := hB.size; omega
 replace hB := hB.trans k1
 clear eb1 z1
 refine aT (aS (aS (aR (ogm rfl rfl (aU (bW rfl rfl) rfl (aT (cU rfl (by have := hn.1; omega) (a8 (aS (aR (ogm rfl rfl (ag (e' := n) (lo := 0) (hi := 9223372036854775807) (gC (by rw [aO]; rfl) aJ rfl) (am hn rfl) (hn) rfl (fun z2 h1 r1 => a9 (aV (vs := [_]) rfl (mT _ (In.wk r1 rfl) _)) rfl ?_)))))))))))))
 rintro _ w2 ⟨hh1, rfl, E1, k2⟩
 obtain ⟨hB, hb1⟩ := bT k2 hB hb1
 refine a6 (ak aj rfl rfl rfl ad hb1 rfl) ?_
 rintro _ w3 ⟨hb2, k3, z3⟩
 replace hB := hB.new k3 (nw ge_b1)
 clear z3
 replace hb2 := cv (g := hh1) hb2
 refine aT (bP hfin Tryd.results37 rfl (ae bG aj hb2 rfl)  ?_)
 exact ⟨hh1, rfl, (by have e : z2 = n := (by unfold Eqn at *; assumption); rw [e] at E1; exact E1), hB⟩
theorem iE (v : Value) (xs : List UInt8) (w : World) (hv : RdB w v xs) (hx : xs.length = 32) : Rets Tryd.prog 35 [v] w (fun v w' => ∃ h, v = .tuple #[.agg (iv .u64 5 h).toArray, .int .i64 0] ∧ El h (fp (leI xs)) ∧ Keep [] w w') := by
 have hB : Keep [] w w := Keep.refl _ _
 refine a7 Tryd.func35 rfl (by decide) Tryd.ntmps35 rfl (fun fin _ hfin => aS (aR (a9 (ab aj) rfl ?_)))
 rintro _ w1 ⟨b1, rfl, eb1, hb1, k1, z1⟩
 have ge_b1 : w.heap.size ≤ b1 := by have := hB.size; omega
 replace hB := hB.trans k1
 clear eb1 z1
 refine oga rfl rfl (aT (aS (aS (aR (ogm rfl rfl (aU (bp aB rfl (by first | assumption | exact Own.rd ‹_› | exact Rd.pK ‹_› hB | exact Own.rd (Own.pK ‹_› hB))) rfl (aU (dU rfl rfl) rfl (aT (cU rfl (by omega) (a8 (aS (aR (ogm rfl rfl (a9 (aV (vs := [_]) rfl (jU _ xs _ (by first | assumption | exact Own.rd ‹_› | exact Rd.pK ‹_› hB | exact Own.rd (Own.pK ‹_› hB)) hx)) rfl ?_))))))))))))))
 rintro _ w2 ⟨hh1, rfl, E1, k2⟩
 obtain ⟨hB, hb1⟩ := bT k2 hB hb1
 refine aU (cd (idx := [0]) (xs := [.tmp 9]) (vs := [_]) (css := [[_, _, _, _, _]]) (out := [_, _, _, _, _]) jx aj rfl rfl ⟨rfl, trivial⟩ rfl rfl) rfl (a6 (ak aj rfl rfl rfl (by simp only [List.forall_mem_cons]; refine ⟨rfl, rfl, rfl, rfl, rfl, fun v hv => by cases hv⟩) hb1 rfl) ?_)
 rintro _ w3 ⟨hb2, k3, z2⟩
 replace hB := hB.new k3 (nw ge_b1)
 clear z2
 replace hb2 := cv (g := hh1) hb2
 refine oga rfl rfl (aT (cR hfin Tryd.results35 rfl (ae bG aj hb2 rfl) rfl ?_))
 exact ⟨hh1, rfl, E1, hB⟩
def dq (q : Fp) : Fp := fpow q 7237005577332262213973186563042994240829374041602535252466099000494570602494
def cm (q : Fp) : Fp := if dq q * dq q = q then dq q else dq q * fpow 2 14474011154664524427946373126085988481658748083205070504932198000989141204987
def rootOk (u v : Fp) : Bool := decide (cm (u * inv v) * cm (u * inv v) = u * inv v) && !(decide (v = 0) && !decide (u = 0))
def oddF (x : Fp) : Prop := x.val % 2 = 1
instance (x : Fp) : Decidable (oddF x) := inferInstanceAs (Decidable (x.val % 2 = 1))
def rootF (u v : Fp) : Fp := bif rootOk u v then (if oddF (cm (u * inv v)) then 0 - cm (u * inv v) else cm (u * inv v)) else 0
theorem eD {q : Fp} (h : ¬ fpow q 7237005577332262213973186563042994240829374041602535252466099000494570602494 * fpow q 7237005577332262213973186563042994240829374041602535252466099000494570602494 = q) : cm q = fpow q 7237005577332262213973186563042994240829374041602535252466099000494570602494 * fpow 2 14474011154664524427946373126085988481658748083205070504932198000989141204987 := if_neg h
theorem eE {q : Fp} (h : ¬¬ fpow q 7237005577332262213973186563042994240829374041602535252466099000494570602494 * fpow q 7237005577332262213973186563042994240829374041602535252466099000494570602494 = q) : cm q = fpow q 7237005577332262213973186563042994240829374041602535252466099000494570602494 := if_pos (Decidable.of_not_not h)
theorem gV {a b r : Fp} (hr : cm (a * inv b) = r) (h : (decide ¬ r * r = a * inv b || decide (b = 0) && decide ¬ a = 0) = true) : rootOk a b = false := by
 subst hr
 unfold rootOk
 by_cases h1 : cm (a * inv b) * cm (a * inv b) = a * inv b
 · by_cases h2 : b = 0
   · by_cases h3 : a = 0
     · rw [decide_eq_false (not_not_intro h1), decide_eq_true h2, decide_eq_false (not_not_intro h3)] at h; cases h
     · rw [decide_eq_true h1, decide_eq_true h2, decide_eq_false h3]; rfl
   · rw [decide_eq_false (not_not_intro h1), decide_eq_false h2] at h; cases h
 · rw [decide_eq_false h1]; rfl
theorem eC {a b r : Fp} (hr : cm (a * inv b) = r) (h : (decide ¬ r * r = a * inv b || decide (b = 0) && decide ¬ a = 0) = false) : rootOk a b = true := by
 subst hr
 unfold rootOk
 by_cases h1 : cm (a * inv b) * cm (a * inv b) = a * inv b
 · by_cases h2 : b = 0
   · by_cases h3 : a = 0
     · rw [decide_eq_true h1, decide_eq_true h2, decide_eq_true h3]; rfl
     · rw [decide_eq_true h2, decide_eq_true h3, Bool.and_self, Bool.or_true] at h; cases h
   · rw [decide_eq_true h1, decide_eq_false h2]; rfl
 · rw [decide_eq_true h1] at h; cases h
theorem odd0 (x : Fp) : bits .and .u8 (gb (fpB x) 0) 1 = 1 ↔ oddF x := by
 have g := cc (fpB x) 0
 rw [bd (k := .u8) (a := 0) (b := 255) 1 (c := 1) (m := 2) g rfl rfl rfl rfl rfl rfl]
 have e : gb (fpB x) 0 = (x.val : Int) % 256 := by
   show (((UInt8.ofNat ((x.val : Int) % 256).toNat).toNat : Nat) : Int) = _
   have : (UInt8.ofNat ((x.val : Int) % 256).toNat).toNat = ((x.val : Int) % 256).toNat := by simp; omega
   rw [this]; omega
 rw [e]; unfold oddF; omega
theorem l5 {a b : Fp} (h : rootOk a b = false) : rootF a b = 0 := by unfold rootF; rw [h]; rfl
theorem i9 {a b r : Fp} (h : rootOk a b = true) (hr : cm (a * inv b) = r) (ho : bits .and .u8 (gb (fpB r) 0) 1 = 1) : rootF a b = 0 - r := by
 subst hr; unfold rootF; rw [h, cond_true, if_pos ((odd0 _).mp ho)]
theorem gm {a b r : Fp} (h : rootOk a b = true) (hr : cm (a * inv b) = r) (ho : ¬ bits .and .u8 (gb (fpB r) 0) 1 = 1) : rootF a b = r := by
 subst hr; unfold rootF; rw [h, cond_true, if_neg (fun c => ho ((odd0 _).mpr c))]
theorem nb (f g : Nat → Int) (a b : Fp) (hf : El f a) (hg : El g b) (w : World) : Rets Tryd.prog 58 [.agg (iv .u64 5 f).toArray, .agg (iv .u64 5 g).toArray] w (fun v w' => ∃ h, v = .tuple #[.agg (iv .u64 5 h).toArray, .bool (rootOk a b)] ∧ El h (rootF a b) ∧ Keep [] w w') := by
  have hB : Keep [] w w := Keep.refl _ _
  refine a7 Tryd.func58 rfl (by decide) Tryd.ntmps58 rfl (fun fin _ hfin => aS (aR (a9 (bc (cs := [.int .u64 (f 0), .int .u64 (f 1), .int .u64 (f 2), .int .u64 (f 3), .int .u64 (f 4)]) rfl rfl) rfl ?_)))
  rintro _ w1 ⟨b1, rfl, eb1, hb1, k1, z1⟩
  replace hB := hB.trans k1
  clear eb1 z1
  refine a9 (bc (cs := [.int .u64 (g 0), .int .u64 (g 1), .int .u64 (g 2), .int .u64 (g 3), .int .u64 (g 4)]) rfl rfl) rfl ?_
  rintro _ w2 ⟨b2, rfl, eb2, hb2, k2, z2⟩
  obtain ⟨hB, hb1⟩ := bT k2 hB hb1
  clear eb2 z2
  refine a9 (ab ah) rfl ?_
  rintro _ w3 ⟨b3, rfl, eb3, hb3, k3, z3⟩
  have ge_b3 : w.heap.size ≤ b3 := by have := hB.size; omega
  have ne_b1_b3 : b1 ≠ b3 := by have := hb1.lt; omega
  have ne_b2_b3 : b2 ≠ b3 := by have := hb2.lt; omega
  obtain ⟨hB, hb1, hb2⟩ := cX k3 hB hb1 hb2
  clear eb3 z3
  refine oga rfl rfl (aT (aS ?_))
  have gs1 := hB.size
  have lt1 := hb1.lt
  have lt2 := hb2.lt
  have lt3 := hb3.lt
  refine bJ 5 [0, 1, 2, 3] [2, 3] [] [(4, 41, [.int .u64 0, .int .u64 0, .int .u64 0, .int .u64 0, .int .u64 0])] mixed [(2, _), (3, _), (4, _)] ⟨rfl, rfl, rfl, trivial⟩ (by decide +kernel) (by decide) (by decide) ?_ (fun x hx => by cases hx) rfl (fun w4 k4 => ?_)
  · simp only [List.forall_mem_cons]; exact ⟨⟨_, _, _, _, _, _, rfl, ah⟩, fun q hq => by cases hq⟩
  obtain ⟨hB, hb1, hb2, hb3⟩ := cy k4 hB hb1 hb2 hb3
  refine af 2 rfl rfl rfl rfl (fun W' kk => aX (cs' := [_, _, _, _, _]) ay ah rfl (Bk.pK hb1 kk) rfl rfl) (af 3 rfl rfl rfl rfl (fun W' kk => aX (cs' := [_, _, _, _, _]) ay ah rfl (Bk.pK hb2 kk) rfl rfl) (bY [(9, _)] rfl rfl ⟨rfl, trivial⟩ rfl (fun w6 k6 => ?_)))
  obtain ⟨hB, hb1, hb2, hb3⟩ := cy k6 hB hb1 hb2 hb3
  refine (aV (vs := [_]) rfl (lm _ _ hg _)).mono ?_
  rintro _ w5 ⟨hh1, rfl, E1, k5⟩
  refine ⟨k5, nox, ?_⟩
  obtain ⟨hB, hb1, hb2, hb3⟩ := cy k5 hB hb1 hb2 hb3
  refine bY [(8, _), (10, _)] rfl rfl ⟨rfl, rfl, trivial⟩ rfl (fun w8 k8 => ?_)
  obtain ⟨hB, hb1, hb2, hb3⟩ := cy k8 hB hb1 hb2 hb3
  refine (aV (vs := [_, _]) rfl (cF _ _ _ _ hf E1 _)).mono ?_
  rintro _ w7 ⟨hh2, rfl, E2, k7⟩
  refine ⟨k7, nox, ?_⟩
  obtain ⟨hB, hb1, hb2, hb3⟩ := cy k7 hB hb1 hb2 hb3
  refine cC (fun w9 k9 => ?_)
  obtain ⟨hB, hb1, hb2, hb3⟩ := cy k9 hB hb1 hb2 hb3
  intro b4 eb4 lb1 hb4 ds1 sp1
  have ge_b4 : w.heap.size ≤ b4 := Nat.le_trans gs1 eb4
  have ne_b1_b4 : b1 ≠ b4 := Nat.ne_of_lt (Nat.lt_of_lt_of_le lt1 eb4)
  have ne_b2_b4 : b2 ≠ b4 := Nat.ne_of_lt (Nat.lt_of_lt_of_le lt2 eb4)
  have ne_b3_b4 : b3 ≠ b4 := Nat.ne_of_lt (Nat.lt_of_lt_of_le lt3 eb4)
  refine bK (a6 (ak ah rfl rfl rfl ad hb4 rfl) ?_)
  rintro _ w10 ⟨hb5, k10, z4⟩
  replace hb1 := hb1.keep k10 (nm ne_b1_b4)
  replace hb2 := hb2.keep k10 (nm ne_b2_b4)
  replace hb3 := hb3.keep k10 (nm ne_b3_b4)
  replace hB := hB.new k10 (nw ge_b4)
  clear z4
  replace hb5 := cv (g := hh2) hb5
  refine aT (aS (aR (aU (aX (cs' := [_, _, _, _, _]) ay ah rfl hb5 rfl rfl) rfl (a9 (aV (vs := [_]) rfl (lG _ _ E2 _)) rfl ?_))))
  rintro _ w11 ⟨hh3, rfl, E3, k11⟩
  obtain ⟨hB, hb1, hb2, hb3, hb5⟩ := dg k11 hB hb1 hb2 hb3 hb5
  refine a9 (ab ah) rfl ?_
  rintro _ w12 ⟨b5, rfl, eb5, hb6, k12, z5⟩
  have ge_b5 : w.heap.size ≤ b5 := by have := hB.size; omega
  have ne_b1_b5 : b1 ≠ b5 := by have := hb1.lt; omega
  have ne_b2_b5 : b2 ≠ b5 := by have := hb2.lt; omega
  have ne_b3_b5 : b3 ≠ b5 := by have := hb3.lt; omega
  have ne_b4_b5 : b4 ≠ b5 := by have := hb5.lt; omega
  obtain ⟨hB, hb1, hb2, hb3, hb5⟩ := dg k12 hB hb1 hb2 hb3 hb5
  clear eb5 z5
  refine a6 (ak ah rfl rfl rfl ad hb6 rfl) ?_
  rintro _ w13 ⟨hb7, k13, z6⟩
  replace hb1 := hb1.keep k13 (nm ne_b1_b5)
  replace hb2 := hb2.keep k13 (nm ne_b2_b5)
  replace hb3 := hb3.keep k13 (nm ne_b3_b5)
  replace hb5 := hb5.keep k13 (nm ne_b4_b5)
  replace hB := hB.new k13 (nw ge_b5)
  clear z6
  replace hb7 := cv (g := hh3) hb7
  refine aT (aS (aS (bz 6 [0, 1, 3, 2, 4, 5] [2, 4] [] mixed [(7, _), (6, _), (2, _), (3, _), (4, _)] ⟨rfl, rfl, rfl, rfl, rfl, trivial⟩ (by decide +kernel) rfl (fun w14 k14 => ?_))))
  obtain ⟨hB, hb1, hb2, hb3, hb5, hb7⟩ := dz k14 hB hb1 hb2 hb3 hb5 hb7
  refine ao 7 rfl rfl rfl rfl (fun W' kk => aX (cs' := [_, _, _, _, _]) ay ah rfl (Bk.pK hb7 kk) rfl rfl) (ao 7 rfl rfl rfl rfl (fun W' kk => aX (cs' := [_, _, _, _, _]) ay ah rfl (Bk.pK hb7 kk) rfl rfl) (ao 6 rfl rfl rfl rfl (fun W' kk => aX (cs' := [_, _, _, _, _]) ay ah rfl (Bk.pK hb5 kk) rfl rfl) (bx [(14, _), (15, _)] rfl rfl ⟨rfl, rfl, trivial⟩ rfl (aV (vs := [_, _]) rfl (cF _ _ _ _ E3 E3 _)) ?_)))
  rintro _ w15 ⟨hh4, rfl, E4, k15⟩
  refine ⟨k15, ?_⟩
  obtain ⟨hB, hb1, hb2, hb3, hb5, hb7⟩ := dz k15 hB hb1 hb2 hb3 hb5 hb7
  refine bx [(16, _), (17, _)] rfl rfl ⟨rfl, rfl, trivial⟩ rfl (aV (vs := [_, _]) rfl (fV _ _ _ _ E4 E2 _)) ?_
  rintro _ w16 ⟨rfl, k16⟩
  refine ⟨k16, ?_⟩
  obtain ⟨hB, hb1, hb2, hb3, hb5, hb7⟩ := dz k16 hB hb1 hb2 hb3 hb5 hb7
  refine ao 18 rfl rfl rfl rfl (fun W' kk => eh rfl) (cS (aT (bo rfl (fun hc1 => ?_) (fun hc1 => ?_))))
  · -- yes
    refine bz 2 [0, 1] [1] [] mixed [(7, _), (6, _), (2, _), (3, _), (4, _)] ⟨rfl, rfl, rfl, rfl, rfl, trivial⟩ (by decide +kernel) rfl (fun w17 k17 => ?_)
    obtain ⟨hB, hb1, hb2, hb3, hb5, hb7⟩ := dz k17 hB hb1 hb2 hb3 hb5 hb7
    refine ao 7 rfl rfl rfl rfl (fun W' kk => aX (cs' := [_, _, _, _, _]) ay ah rfl (Bk.pK hb7 kk) rfl rfl) (bx [] rfl rfl trivial rfl (aV (vs := []) rfl (ku _)) ?_)
    rintro _ w18 ⟨hh5, rfl, E5, k18⟩
    refine ⟨k18, ?_⟩
    obtain ⟨hB, hb1, hb2, hb3, hb5, hb7⟩ := dz k18 hB hb1 hb2 hb3 hb5 hb7
    refine cS (a9 (aV (vs := [_, _]) rfl (cF _ _ _ _ E3 E5 _)) rfl ?_)
    rintro _ w19 ⟨hh6, rfl, E6, k19⟩
    obtain ⟨hB, hb1, hb2, hb3, hb5, hb7⟩ := dz k19 hB hb1 hb2 hb3 hb5 hb7
    refine a6 (ak ah rfl rfl rfl ad hb7 rfl) ?_
    rintro _ w20 ⟨hb8, k20, z7⟩
    replace hb1 := hb1.keep k20 (nm ne_b1_b5)
    replace hb2 := hb2.keep k20 (nm ne_b2_b5)
    replace hb3 := hb3.keep k20 (nm ne_b3_b5)
    replace hb5 := hb5.keep k20 (nm ne_b4_b5)
    replace hB := hB.new k20 (nw ge_b5)
    clear z7
    replace hb8 := cv (g := hh6) hb8
    refine aT (aS (aS (bJ 15 [0, 1, 3, 2, 4, 5, 6, 7, 8, 9, 10, 11, 12, 13, 14] [2, 4, 8, 11] [] [] mixed [(7, _), (6, _), (3, _), (2, _), (4, _)] ⟨rfl, rfl, rfl, rfl, rfl, trivial⟩ (by decide +kernel) (by decide) (by decide) ?_ (fun x hx => by cases hx) rfl (fun w21 k21 => ?_))))
    · intro q hq; cases hq
    obtain ⟨hB, hb1, hb2, hb3, hb5, hb8⟩ := dz k21 hB hb1 hb2 hb3 hb5 hb8
    refine af 7 rfl rfl rfl rfl (fun W' kk => aX (cs' := [_, _, _, _, _]) ay ah rfl (Bk.pK hb8 kk) rfl rfl) (af 7 rfl rfl rfl rfl (fun W' kk => aX (cs' := [_, _, _, _, _]) ay ah rfl (Bk.pK hb8 kk) rfl rfl) (af 6 rfl rfl rfl rfl (fun W' kk => aX (cs' := [_, _, _, _, _]) ay ah rfl (Bk.pK hb5 kk) rfl rfl) (bY [(23, _), (24, _)] rfl rfl ⟨rfl, rfl, trivial⟩ rfl (fun w23 k23 => ?_))))
    obtain ⟨hB, hb1, hb2, hb3, hb5, hb8⟩ := dz k23 hB hb1 hb2 hb3 hb5 hb8
    refine (aV (vs := [_, _]) rfl (cF _ _ _ _ E6 E6 _)).mono ?_
    rintro _ w22 ⟨hh7, rfl, E7, k22⟩
    refine ⟨k22, nox, ?_⟩
    obtain ⟨hB, hb1, hb2, hb3, hb5, hb8⟩ := dz k22 hB hb1 hb2 hb3 hb5 hb8
    refine bY [(25, _), (26, _)] rfl rfl ⟨rfl, rfl, trivial⟩ rfl (fun w25 k25 => ?_)
    obtain ⟨hB, hb1, hb2, hb3, hb5, hb8⟩ := dz k25 hB hb1 hb2 hb3 hb5 hb8
    refine (aV (vs := [_, _]) rfl (fV _ _ _ _ E7 E2 _)).mono ?_
    rintro _ w24 ⟨rfl, k24⟩
    refine ⟨k24, nox, ?_⟩
    obtain ⟨hB, hb1, hb2, hb3, hb5, hb8⟩ := dz k24 hB hb1 hb2 hb3 hb5 hb8
    refine af 27 rfl rfl rfl rfl (fun W' kk => eh rfl) (cK 28 rfl rfl rfl rfl rfl (nq 29 false rfl (fun c1 hgc1 => eu [(3, _), (29, _)] [(3, _)] rfl rfl ⟨rfl, rfl, trivial⟩ rfl (dh rfl rfl rfl hgc1) ⟨fu rfl, trivial⟩ (fun hw1 => (fun W' kk => aX (cs' := [_, _, _, _, _]) ay ah rfl (Bk.pK hb2 kk) rfl rfl)) (jJ (V := .bool (decide (b = 0))) [(29, _), (30, _)] [(30, _)] rfl rfl ⟨rfl, rfl, trivial⟩ rfl (dh rfl rfl rfl hgc1) ⟨eA rfl, trivial⟩ rfl (fun W1 kk hw2 => (aV (vs := [_]) rfl (fO _ _ hg _)).mono (by rintro _ w26 ⟨rfl, k26⟩; exact ⟨rfl, k26⟩)) (fun w27 k27 => ?_)))))
    obtain ⟨hB, hb1, hb2, hb3, hb5, hb8⟩ := dz k27 hB hb1 hb2 hb3 hb5 hb8
    refine eu [(29, _), (31, _)] [(31, _)] rfl rfl ⟨rfl, rfl, trivial⟩ rfl (dh rfl rfl rfl hgc1) ⟨eA rfl, trivial⟩ (fun hw3 => (fun W' kk => ax rfl)) (lc 32 true rfl (fun c2 hgc2 => eu [(2, _), (32, _)] [(2, _)] rfl rfl ⟨rfl, rfl, trivial⟩ rfl (jS rfl rfl rfl hgc2) ⟨fu rfl, trivial⟩ (fun hw4 => (fun W' kk => aX (cs' := [_, _, _, _, _]) ay ah rfl (Bk.pK hb1 kk) rfl rfl)) (jJ (V := .bool (decide (a = 0))) [(32, _), (33, _)] [(33, _)] rfl rfl ⟨rfl, rfl, trivial⟩ rfl (jS rfl rfl rfl hgc2) ⟨eA rfl, trivial⟩ rfl (fun W1 kk hw5 => (aV (vs := [_]) rfl (fO _ _ hf _)).mono (by rintro _ w28 ⟨rfl, k28⟩; exact ⟨rfl, k28⟩)) (fun w29 k29 => ?_))))
    obtain ⟨hB, hb1, hb2, hb3, hb5, hb8⟩ := dz k29 hB hb1 hb2 hb3 hb5 hb8
    refine eu [(32, _), (34, _)] [(34, _)] rfl rfl ⟨rfl, rfl, trivial⟩ rfl (jS rfl rfl rfl hgc2) ⟨eA rfl, trivial⟩ (fun hw6 => (fun W' kk => eh rfl)) (la (dj := 0) [(29, _), (32, _), (35, _)] rfl rfl ⟨rfl, rfl, rfl, trivial⟩ rfl (dh rfl rfl rfl hgc1) (eA rfl) rfl hgc2 rfl (dK 29 36 rfl rfl rfl rfl rfl (fun W' kk => iB rfl rfl hgc1) (cC (fun w30 k30 => ?_))))
    obtain ⟨hB, hb1, hb2, hb3, hb5, hb8⟩ := dz k30 hB hb1 hb2 hb3 hb5 hb8
    refine bK (aT (aW [(7, _), (4, _), (37, _)] ⟨rfl, rfl, rfl, trivial⟩ (dH rfl (fun hc2 => ?_) (fun hc2 => ?_))))
    · -- yes
      have hd1 := hc2
      try (simp only [Bool.and_eq_true, Bool.or_eq_true, decide_eq_true_eq, Bool.and_eq_false_iff, Bool.or_eq_false_iff, decide_eq_false_iff_not, Bool.not_eq_true', Bool.not_eq_false', Bool.not_eq_true, Bool.not_eq_false, ne_eq, Decidable.not_not] at hd1)
      refine aS (aR (aU (cx (idx := []) (xs := []) (vs := []) (css := []) (out := [.int .u64 0, .int .u64 0, .int .u64 0, .int .u64 0, .int .u64 0]) aA aY ah (cW 5 1) rfl rfl trivial rfl rfl) rfl (a6 (ak ah rfl rfl rfl (by simp only [List.forall_mem_cons]; refine ⟨rfl, rfl, rfl, rfl, rfl, fun v hv => by cases hv⟩) hb3 rfl) ?_)))
      rintro _ w31 ⟨hb9, k31, z8⟩
      replace hb1 := hb1.keep k31 (nm ne_b1_b3)
      replace hb2 := hb2.keep k31 (nm ne_b2_b3)
      replace hb5 := hb5.keep k31 (nm (Ne.symm ne_b3_b4))
      replace hb8 := hb8.keep k31 (nm (Ne.symm ne_b3_b5))
      replace hB := hB.new k31 (nw ge_b3)
      clear z8
      replace hb9 : Bk w31 b3 _ [.int .u64 0, .int .u64 0, .int .u64 0, .int .u64 0, .int .u64 0] := hb9
      refine oga rfl rfl (aT (cR hfin Tryd.results58 rfl (ae ay ah hb9 rfl) rfl ?_))
      exact ⟨vecN [0, 0, 0, 0, 0], by rw [gV (eD hc1) hc2]; rfl, by rw [l5 (gV (eD hc1) hc2)]; exact eU, hB⟩
    · -- no
      have hd2 := hc2
      try (simp only [Bool.and_eq_true, Bool.or_eq_true, decide_eq_true_eq, Bool.and_eq_false_iff, Bool.or_eq_false_iff, decide_eq_false_iff_not, Bool.not_eq_true', Bool.not_eq_false', Bool.not_eq_true, Bool.not_eq_false, ne_eq, Decidable.not_not] at hd2)
      refine a8 (aS (aS (aR (aU (aX (cs' := [_, _, _, _, _]) ay ah rfl hb8 rfl rfl) rfl (a9 (aV (vs := [_]) rfl (el _ _ E6 _)) rfl ?_)))))
      rintro v1 w32 ⟨o1, k32⟩
      have sb_b3_o1 := fun x hx => (show x ≠ b3 from by have h1 := (o1.blk x hx).1; have h2 := hb3.lt; omega)
      have sb_b5_o1 := fun x hx => (show x ≠ b5 from by have h1 := (o1.blk x hx).1; have h2 := hb8.lt; omega)
      obtain ⟨hB, hb1, hb2, hb3, hb5, hb8⟩ := dz k32 hB hb1 hb2 hb3 hb5 hb8
      have lnv1 := av ((fpow (a * (inv b)) 7237005577332262213973186563042994240829374041602535252466099000494570602494) * (fpow 2 14474011154664524427946373126085988481658748083205070504932198000989141204987))
      refine aU (dV aB cZ rfl o1.rd rfl (by omega)) rfl (aU (d7 j4 rfl (by first | assumption | exact Own.rd (by assumption) | exact Rd.pK (by assumption) hB | exact Own.rd (Own.pK (by assumption) hB)) (by omega)) rfl (aU (cY rfl rfl) rfl (aU (gR rfl rfl) rfl (aT (bo rfl (fun hc3 => ?_) (fun hc3 => ?_))))))
      · -- yes
        refine aR (aU (cx (idx := []) (xs := []) (vs := []) (css := []) (out := [.int .u64 0, .int .u64 0, .int .u64 0, .int .u64 0, .int .u64 0]) aA aY ah (cW 5 1) rfl rfl trivial rfl rfl) rfl (aU (aX (cs' := [_, _, _, _, _]) ay ah rfl hb8 rfl rfl) rfl (a9 (aV (vs := [_, _]) rfl (jC _ _ _ _ eU E6 _)) rfl ?_)))
        rintro _ w33 ⟨hh8, rfl, E8, k33⟩
        obtain ⟨hb1, hb2, hb3, hb5, hb8⟩ := kp5 k33 hb1 hb2 hb3 hb5 hb8
        replace o1 := o1.pK k33
        replace hB := hB.trans k33
        refine a6 (ak ah rfl rfl rfl ad hb8 rfl) ?_
        rintro _ w34 ⟨hb10, k34, z9⟩
        replace hb1 := hb1.keep k34 (nm ne_b1_b5)
        replace hb2 := hb2.keep k34 (nm ne_b2_b5)
        replace hb3 := hb3.keep k34 (nm ne_b3_b5)
        replace hb5 := hb5.keep k34 (nm ne_b4_b5)
        replace o1 := o1.keep k34 (fun x hx hm => sb_b5_o1 x hx (List.mem_singleton.1 hm))
        replace hB := hB.new k34 (nw ge_b5)
        clear z9
        replace hb10 := cv (g := hh8) hb10
        refine aT (aW [(7, _), (4, _)] ⟨rfl, rfl, trivial⟩ (aS (aR (aU (aX (cs' := [_, _, _, _, _]) ay ah rfl hb10 rfl rfl) rfl (a6 (ak ah rfl rfl rfl (by simp only [List.forall_mem_cons]; refine ⟨rfl, rfl, rfl, rfl, rfl, fun v hv => by cases hv⟩) hb3 rfl) ?_)))))
        rintro _ w35 ⟨hb11, k35, z10⟩
        replace o1 := o1.keep k35 (fun x hx hm => sb_b3_o1 x hx (List.mem_singleton.1 hm))
        replace hb10 := hb10.keep k35 (nm (Ne.symm ne_b3_b5))
        replace hB := hB.new k35 (nw ge_b3)
        clear z10
        replace hb11 := cv (g := hh8) hb11
        refine oga rfl rfl (aT (cR hfin Tryd.results58 rfl (ae ay ah hb11 rfl) rfl ?_))
        exact ⟨hh8, by rw [eC (eD hc1) hc2]; rfl, by rw [i9 (eC (eD hc1) hc2) (eD hc1) hc3]; exact E8, hB⟩
      · -- no
        refine a8 (aS (aR (aU (aX (cs' := [_, _, _, _, _]) ay ah rfl hb8 rfl rfl) rfl (a6 (ak ah rfl rfl rfl (by simp only [List.forall_mem_cons]; refine ⟨rfl, rfl, rfl, rfl, rfl, fun v hv => by cases hv⟩) hb3 rfl) ?_))))
        rintro _ w36 ⟨hb12, k36, z11⟩
        replace hb1 := hb1.keep k36 (nm ne_b1_b3)
        replace hb2 := hb2.keep k36 (nm ne_b2_b3)
        replace hb5 := hb5.keep k36 (nm (Ne.symm ne_b3_b4))
        replace hb8 := hb8.keep k36 (nm (Ne.symm ne_b3_b5))
        replace o1 := o1.keep k36 (fun x hx hm => sb_b3_o1 x hx (List.mem_singleton.1 hm))
        replace hB := hB.new k36 (nw ge_b3)
        clear z11
        replace hb12 := cv (g := hh6) hb12
        refine oga rfl rfl (aT (cR hfin Tryd.results58 rfl (ae ay ah hb12 rfl) rfl ?_))
        exact ⟨hh6, by rw [eC (eD hc1) hc2]; rfl, by rw [gm (eC (eD hc1) hc2) (eD hc1) hc3]; exact E6, hB⟩
  · -- no
    refine a8 (aS (aS (bJ 15 [0, 1, 3, 2, 4, 5, 6, 7, 8, 9, 10, 11, 12, 13, 14] [2, 4, 8, 11] [] [] mixed [(7, _), (6, _), (3, _), (2, _), (4, _)] ⟨rfl, rfl, rfl, rfl, rfl, trivial⟩ (by decide +kernel) (by decide) (by decide) ?_ (fun x hx => by cases hx) rfl (fun w37 k37 => ?_))))
    · intro q hq; cases hq
    obtain ⟨hB, hb1, hb2, hb3, hb5, hb7⟩ := dz k37 hB hb1 hb2 hb3 hb5 hb7
    refine af 7 rfl rfl rfl rfl (fun W' kk => aX (cs' := [_, _, _, _, _]) ay ah rfl (Bk.pK hb7 kk) rfl rfl) (af 7 rfl rfl rfl rfl (fun W' kk => aX (cs' := [_, _, _, _, _]) ay ah rfl (Bk.pK hb7 kk) rfl rfl) (af 6 rfl rfl rfl rfl (fun W' kk => aX (cs' := [_, _, _, _, _]) ay ah rfl (Bk.pK hb5 kk) rfl rfl) (bY [(23, _), (24, _)] rfl rfl ⟨rfl, rfl, trivial⟩ rfl (fun w39 k39 => ?_))))
    obtain ⟨hB, hb1, hb2, hb3, hb5, hb7⟩ := dz k39 hB hb1 hb2 hb3 hb5 hb7
    refine (aV (vs := [_, _]) rfl (cF _ _ _ _ E3 E3 _)).mono ?_
    rintro _ w38 ⟨hh9, rfl, E9, k38⟩
    refine ⟨k38, nox, ?_⟩
    obtain ⟨hB, hb1, hb2, hb3, hb5, hb7⟩ := dz k38 hB hb1 hb2 hb3 hb5 hb7
    refine bY [(25, _), (26, _)] rfl rfl ⟨rfl, rfl, trivial⟩ rfl (fun w41 k41 => ?_)
    obtain ⟨hB, hb1, hb2, hb3, hb5, hb7⟩ := dz k41 hB hb1 hb2 hb3 hb5 hb7
    refine (aV (vs := [_, _]) rfl (fV _ _ _ _ E9 E2 _)).mono ?_
    rintro _ w40 ⟨rfl, k40⟩
    refine ⟨k40, nox, ?_⟩
    obtain ⟨hB, hb1, hb2, hb3, hb5, hb7⟩ := dz k40 hB hb1 hb2 hb3 hb5 hb7
    refine af 27 rfl rfl rfl rfl (fun W' kk => eh rfl) (cK 28 rfl rfl rfl rfl rfl (nq 29 false rfl (fun c3 hgc3 => eu [(3, _), (29, _)] [(3, _)] rfl rfl ⟨rfl, rfl, trivial⟩ rfl (dh rfl rfl rfl hgc3) ⟨fu rfl, trivial⟩ (fun hw7 => (fun W' kk => aX (cs' := [_, _, _, _, _]) ay ah rfl (Bk.pK hb2 kk) rfl rfl)) (jJ (V := .bool (decide (b = 0))) [(29, _), (30, _)] [(30, _)] rfl rfl ⟨rfl, rfl, trivial⟩ rfl (dh rfl rfl rfl hgc3) ⟨eA rfl, trivial⟩ rfl (fun W1 kk hw8 => (aV (vs := [_]) rfl (fO _ _ hg _)).mono (by rintro _ w42 ⟨rfl, k42⟩; exact ⟨rfl, k42⟩)) (fun w43 k43 => ?_)))))
    obtain ⟨hB, hb1, hb2, hb3, hb5, hb7⟩ := dz k43 hB hb1 hb2 hb3 hb5 hb7
    refine eu [(29, _), (31, _)] [(31, _)] rfl rfl ⟨rfl, rfl, trivial⟩ rfl (dh rfl rfl rfl hgc3) ⟨eA rfl, trivial⟩ (fun hw9 => (fun W' kk => ax rfl)) (lc 32 true rfl (fun c4 hgc4 => eu [(2, _), (32, _)] [(2, _)] rfl rfl ⟨rfl, rfl, trivial⟩ rfl (jS rfl rfl rfl hgc4) ⟨fu rfl, trivial⟩ (fun hw10 => (fun W' kk => aX (cs' := [_, _, _, _, _]) ay ah rfl (Bk.pK hb1 kk) rfl rfl)) (jJ (V := .bool (decide (a = 0))) [(32, _), (33, _)] [(33, _)] rfl rfl ⟨rfl, rfl, trivial⟩ rfl (jS rfl rfl rfl hgc4) ⟨eA rfl, trivial⟩ rfl (fun W1 kk hw11 => (aV (vs := [_]) rfl (fO _ _ hf _)).mono (by rintro _ w44 ⟨rfl, k44⟩; exact ⟨rfl, k44⟩)) (fun w45 k45 => ?_))))
    obtain ⟨hB, hb1, hb2, hb3, hb5, hb7⟩ := dz k45 hB hb1 hb2 hb3 hb5 hb7
    refine eu [(32, _), (34, _)] [(34, _)] rfl rfl ⟨rfl, rfl, trivial⟩ rfl (jS rfl rfl rfl hgc4) ⟨eA rfl, trivial⟩ (fun hw12 => (fun W' kk => eh rfl)) (la (dj := 0) [(29, _), (32, _), (35, _)] rfl rfl ⟨rfl, rfl, rfl, trivial⟩ rfl (dh rfl rfl rfl hgc3) (eA rfl) rfl hgc4 rfl (dK 29 36 rfl rfl rfl rfl rfl (fun W' kk => iB rfl rfl hgc3) (cC (fun w46 k46 => ?_))))
    obtain ⟨hB, hb1, hb2, hb3, hb5, hb7⟩ := dz k46 hB hb1 hb2 hb3 hb5 hb7
    refine bK (aT (aW [(7, _), (4, _), (37, _)] ⟨rfl, rfl, rfl, trivial⟩ (dH rfl (fun hc4 => ?_) (fun hc4 => ?_))))
    · -- yes
      have hd3 := hc4
      try (simp only [Bool.and_eq_true, Bool.or_eq_true, decide_eq_true_eq, Bool.and_eq_false_iff, Bool.or_eq_false_iff, decide_eq_false_iff_not, Bool.not_eq_true', Bool.not_eq_false', Bool.not_eq_true, Bool.not_eq_false, ne_eq, Decidable.not_not] at hd3)
      refine aS (aR (aU (cx (idx := []) (xs := []) (vs := []) (css := []) (out := [.int .u64 0, .int .u64 0, .int .u64 0, .int .u64 0, .int .u64 0]) aA aY ah (cW 5 1) rfl rfl trivial rfl rfl) rfl (a6 (ak ah rfl rfl rfl (by simp only [List.forall_mem_cons]; refine ⟨rfl, rfl, rfl, rfl, rfl, fun v hv => by cases hv⟩) hb3 rfl) ?_)))
      rintro _ w47 ⟨hb13, k47, z12⟩
      replace hb1 := hb1.keep k47 (nm ne_b1_b3)
      replace hb2 := hb2.keep k47 (nm ne_b2_b3)
      replace hb5 := hb5.keep k47 (nm (Ne.symm ne_b3_b4))
      replace hb7 := hb7.keep k47 (nm (Ne.symm ne_b3_b5))
      replace hB := hB.new k47 (nw ge_b3)
      clear z12
      replace hb13 : Bk w47 b3 _ [.int .u64 0, .int .u64 0, .int .u64 0, .int .u64 0, .int .u64 0] := hb13
      refine oga rfl rfl (aT (cR hfin Tryd.results58 rfl (ae ay ah hb13 rfl) rfl ?_))
      exact ⟨vecN [0, 0, 0, 0, 0], by rw [gV (eE hc1) hc4]; rfl, by rw [l5 (gV (eE hc1) hc4)]; exact eU, hB⟩
    · -- no
      have hd4 := hc4
      try (simp only [Bool.and_eq_true, Bool.or_eq_true, decide_eq_true_eq, Bool.and_eq_false_iff, Bool.or_eq_false_iff, decide_eq_false_iff_not, Bool.not_eq_true', Bool.not_eq_false', Bool.not_eq_true, Bool.not_eq_false, ne_eq, Decidable.not_not] at hd4)
      refine a8 (aS (aS (aR (aU (aX (cs' := [_, _, _, _, _]) ay ah rfl hb7 rfl rfl) rfl (a9 (aV (vs := [_]) rfl (el _ _ E3 _)) rfl ?_)))))
      rintro v2 w48 ⟨o2, k48⟩
      obtain ⟨hB, hb1, hb2, hb3, hb5, hb7⟩ := dz k48 hB hb1 hb2 hb3 hb5 hb7
      have lnv2 := av (fpow (a * (inv b)) 7237005577332262213973186563042994240829374041602535252466099000494570602494)
      refine aU (dV aB cZ rfl o2.rd rfl (by omega)) rfl (aU (d7 j4 rfl (by first | assumption | exact Own.rd (by assumption) | exact Rd.pK (by assumption) hB | exact Own.rd (Own.pK (by assumption) hB)) (by omega)) rfl (aU (cY rfl rfl) rfl (aU (gR rfl rfl) rfl (aT (bo rfl (fun hc5 => ?_) (fun hc5 => ?_))))))
      · -- yes
        refine aR (aU (cx (idx := []) (xs := []) (vs := []) (css := []) (out := [.int .u64 0, .int .u64 0, .int .u64 0, .int .u64 0, .int .u64 0]) aA aY ah (cW 5 1) rfl rfl trivial rfl rfl) rfl (aU (aX (cs' := [_, _, _, _, _]) ay ah rfl hb7 rfl rfl) rfl (a9 (aV (vs := [_, _]) rfl (jC _ _ _ _ eU E3 _)) rfl ?_)))
        rintro _ w49 ⟨hh10, rfl, E10, k49⟩
        obtain ⟨hB, hb3, hb7⟩ := cX k49 hB hb3 hb7
        refine a6 (ak ah rfl rfl rfl ad hb7 rfl) ?_
        rintro _ w50 ⟨hb14, k50, z13⟩
        replace hb3 := hb3.keep k50 (nm ne_b3_b5)
        replace hB := hB.new k50 (nw ge_b5)
        clear z13
        replace hb14 := cv (g := hh10) hb14
        refine aT (aW [(7, _), (4, _)] ⟨rfl, rfl, trivial⟩ (aS (aR (aU (aX (cs' := [_, _, _, _, _]) ay ah rfl hb14 rfl rfl) rfl (a6 (ak ah rfl rfl rfl (by simp only [List.forall_mem_cons]; refine ⟨rfl, rfl, rfl, rfl, rfl, fun v hv => by cases hv⟩) hb3 rfl) ?_)))))
        rintro _ w51 ⟨hb15, k51, z14⟩
        replace hB := hB.new k51 (nw ge_b3)
        clear z14
        replace hb15 := cv (g := hh10) hb15
        refine oga rfl rfl (aT (cR hfin Tryd.results58 rfl (ae ay ah hb15 rfl) rfl ?_))
        exact ⟨hh10, by rw [eC (eE hc1) hc4]; rfl, by rw [i9 (eC (eE hc1) hc4) (eE hc1) hc5]; exact E10, hB⟩
      · -- no
        refine a8 (aS (aR (aU (aX (cs' := [_, _, _, _, _]) ay ah rfl hb7 rfl rfl) rfl (a6 (ak ah rfl rfl rfl (by simp only [List.forall_mem_cons]; refine ⟨rfl, rfl, rfl, rfl, rfl, fun v hv => by cases hv⟩) hb3 rfl) ?_))))
        rintro _ w52 ⟨hb16, k52, z15⟩
        replace hB := hB.new k52 (nw ge_b3)
        clear z15
        replace hb16 := cv (g := hh3) hb16
        refine oga rfl rfl (aT (cR hfin Tryd.results58 rfl (ae ay ah hb16 rfl) rfl ?_))
        exact ⟨hh3, by rw [eC (eE hc1) hc4]; rfl, by rw [gm (eC (eE hc1) hc4) (eE hc1) hc5]; exact E3, hB⟩
theorem pJ (u v : Value) (xs ys : List UInt8) (w : World) (hu : RdB w u xs) (hx : xs.length = 32) (hv : RdB w v ys) (hy : ys.length = 32) : Rets Tryd.prog 38 [u, v] w (fun v w' => ∃ q, v = .tuple #[q, .bool (rootOk (fp (leI xs)) (fp (leI ys))), .int .i64 0] ∧ OwnB w' w.heap.size q (fpB (rootF (fp (leI xs)) (fp (leI ys)))) ∧ Keep [] w w') := by
 have hB : Keep [] w w := Keep.refl _ _
 refine a7 Tryd.func38 rfl (by decide) Tryd.ntmps38 rfl (fun fin _ hfin => aS (aR (oga rfl rfl (oga rfl rfl (oga rfl rfl (aT (aS (aS (aR (ogm rfl rfl (aU (bp aB rfl (by first | assumption | exact Own.rd ‹_› | exact Rd.pK ‹_› hB | exact Own.rd (Own.pK ‹_› hB))) rfl (aU (dU rfl rfl) rfl (ogm rfl rfl (fy 11 false rfl (fun c1 hgc1 => df [(1, _)] (dh rfl rfl rfl hgc1) ⟨fu rfl, trivial⟩ (fun hw1 => ax rfl) rfl (df [(12, _)] (dh rfl rfl rfl hgc1) ⟨eA rfl, trivial⟩ (fun hw2 => bp aB rfl (by first | assumption | exact Own.rd ‹_› | exact Rd.pK ‹_› hB | exact Own.rd (Own.pK ‹_› hB))) rfl (df [(13, _)] (dh rfl rfl rfl hgc1) ⟨eA rfl, trivial⟩ (fun hw3 => dU rfl rfl) rfl (aU (iB rfl rfl hgc1) rfl ?_))))))))))))))))))
 refine aT (aW [(0, _), (1, _), (15, _)] ⟨rfl, rfl, rfl, trivial⟩ (dH rfl (fun hc1 => ?_) (fun hc1 => ?_)))
 ·
  have hd1 := hc1
  try (simp only [Bool.and_eq_true, Bool.or_eq_true, decide_eq_true_eq, Bool.and_eq_false_iff, Bool.or_eq_false_iff, decide_eq_false_iff_not, Bool.not_eq_true', Bool.not_eq_false', Bool.not_eq_true, Bool.not_eq_false, ne_eq, Decidable.not_not] at hd1)
  refine aS (aR (oga rfl rfl (oga rfl rfl (oga rfl rfl (aT (lV hfin Tryd.results38 rfl rfl rfl ?_))))))
  exfalso; omega
 ·
  have hd2 := hc1
  try (simp only [Bool.and_eq_true, Bool.or_eq_true, decide_eq_true_eq, Bool.and_eq_false_iff, Bool.or_eq_false_iff, decide_eq_false_iff_not, Bool.not_eq_true', Bool.not_eq_false', Bool.not_eq_true, Bool.not_eq_false, ne_eq, Decidable.not_not] at hd2)
  refine a8 (aS (aR (ogm rfl rfl (a9 (aV (vs := [_]) rfl (jU _ xs _ (by first | assumption | exact Own.rd ‹_› | exact Rd.pK ‹_› hB | exact Own.rd (Own.pK ‹_› hB)) hx)) rfl ?_))))
  rintro _ w1 ⟨hh1, rfl, E1, k1⟩
  replace hB := hB.trans k1
  refine ogm rfl rfl (a9 (aV (vs := [_]) rfl (jU _ ys _ (by first | assumption | exact Own.rd ‹_› | exact Rd.pK ‹_› hB | exact Own.rd (Own.pK ‹_› hB)) hy)) rfl ?_)
  rintro _ w2 ⟨hh2, rfl, E2, k2⟩
  replace hB := hB.trans k2
  refine a9 (aV (vs := [_, _]) rfl (nb _ _ _ _ E1 E2 _)) rfl ?_
  rintro _ w3 ⟨hh3, rfl, E3, k3⟩
  replace hB := hB.trans k3
  refine ogm rfl rfl (aU (ar (vs := [_, _]) rfl rfl) rfl (aU (ar (vs := [_, _]) rfl rfl) rfl (a9 (ab ah) rfl ?_)))
  rintro _ w4 ⟨b1, rfl, eb1, hb1, k4, z1⟩
  have ge_b1 : w.heap.size ≤ b1 := by have := hB.size; omega
  replace hB := hB.trans k4
  clear eb1 z1
  refine a6 (ak ah rfl rfl rfl ad hb1 rfl) ?_
  rintro _ w5 ⟨hb2, k5, z2⟩
  replace hB := hB.new k5 (nw ge_b1)
  clear z2
  replace hb2 := cv (g := hh3) hb2
  refine oga rfl rfl (aT (aW [(7, _), (5, _)] ⟨rfl, rfl, trivial⟩ (aS (aR (aU (aX (cs' := [_, _, _, _, _]) ay ah rfl hb2 rfl rfl) rfl (a9 (aV (vs := [_]) rfl (el _ _ E3 _)) rfl ?_))))))
  rintro v1 w6 ⟨o1, k6⟩
  have gl_o1 := hB.size
  replace hB := hB.trans k6
  refine ogm rfl rfl (oga rfl rfl (oga rfl rfl (oga rfl rfl (aT (lV hfin Tryd.results38 rfl rfl rfl ?_)))))
  exact ⟨_, rfl, o1.lo gl_o1, hB⟩
def PtEl (p : Nat → Int) (X Y Z T : Fp) : Prop := El p X ∧ El (vecN [(p 5), (p 6), (p 7), (p 8), (p 9)]) Y ∧ El (vecN [(p 10), (p 11), (p 12), (p 13), (p 14)]) Z ∧ El (vecN [(p 15), (p 16), (p 17), (p 18), (p 19)]) T
theorem fM (f g : Nat → Int) (a b : Fp) (hf : El f a) (hg : El g b) (w : World) : Rets Tryd.prog 43 [.agg (iv .u64 5 f).toArray, .agg (iv .u64 5 g).toArray] w (fun v w' => ∃ p, v = .agg (iv .u64 20 p).toArray ∧ PtEl p a b (fp 1) (a * b) ∧ Keep [] w w') := by
 have hB : Keep [] w w := Keep.refl _ _
 refine a7 Tryd.func43 rfl (by decide) Tryd.ntmps43 rfl (fun fin _ hfin => aS (aR (a9 (bc (cs := [.int .u64 (f 0), .int .u64 (f 1), .int .u64 (f 2), .int .u64 (f 3), .int .u64 (f 4)]) rfl rfl) rfl ?_)))
 rintro _ w1 ⟨b1, rfl, eb1, hb1, k1, z1⟩
 replace hB := hB.trans k1
 clear eb1 z1
 refine a9 (bc (cs := [.int .u64 (g 0), .int .u64 (g 1), .int .u64 (g 2), .int .u64 (g 3), .int .u64 (g 4)]) rfl rfl) rfl ?_
 rintro _ w2 ⟨b2, rfl, eb2, hb2, k2, z2⟩
 obtain ⟨hB, hb1⟩ := bT k2 hB hb1
 clear eb2 z2
 refine a9 (ab bA) rfl ?_
 rintro _ w3 ⟨b3, rfl, eb3, hb3, k3, z3⟩
 have ge_b3 : w.heap.size ≤ b3 := by have := hB.size; omega
 obtain ⟨hB, hb1, hb2⟩ := cX k3 hB hb1 hb2
 clear eb3 z3
 refine aT (aS (bz 7 [0, 1, 3, 4, 2, 5, 6] [2, 5] [] mixed [(2, _), (3, _), (4, _)] ⟨rfl, rfl, rfl, trivial⟩ (by decide +kernel) rfl (fun w4 k4 => ?_)))
 obtain ⟨hB, hb1, hb2, hb3⟩ := cy k4 hB hb1 hb2 hb3
 refine ao 2 rfl rfl rfl rfl (fun W' kk => aX (cs' := [_, _, _, _, _]) bG aj rfl (Bk.pK hb1 kk) rfl rfl) (ao 3 rfl rfl rfl rfl (fun W' kk => aX (cs' := [_, _, _, _, _]) bG aj rfl (Bk.pK hb2 kk) rfl rfl) (ao 2 rfl rfl rfl rfl (fun W' kk => aX (cs' := [_, _, _, _, _]) bG aj rfl (Bk.pK hb1 kk) rfl rfl) (ao 3 rfl rfl rfl rfl (fun W' kk => aX (cs' := [_, _, _, _, _]) bG aj rfl (Bk.pK hb2 kk) rfl rfl) (bx [] rfl rfl trivial rfl (aV (vs := [_]) rfl (gF _ (by decide) _)) ?_))))
 rintro _ w5 ⟨hh1, rfl, E1, k5⟩
 refine ⟨k5, ?_⟩
 obtain ⟨hB, hb3⟩ := bT k5 hB hb3
 refine bx [(8, _), (9, _)] rfl rfl ⟨rfl, rfl, trivial⟩ rfl (aV (vs := [_, _]) rfl (az _ _ _ _ hf hg _)) ?_
 rintro _ w6 ⟨hh2, rfl, E2, k6⟩
 refine ⟨k6, ?_⟩
 obtain ⟨hB, hb3⟩ := bT k6 hB hb3
 refine mb [(5, _), (6, _), (7, _), (10, _)] rfl rfl ⟨rfl, rfl, rfl, rfl, trivial⟩ rfl (fun W' kk => cd (idx := [0, 1, 2, 3]) (xs := [.tmp 5, .tmp 6, .tmp 7, .tmp 10]) (vs := [_, _, _, _]) (css := [[_, _, _, _, _], [_, _, _, _, _], [_, _, _, _, _], [_, _, _, _, _]]) (out := [_, _, _, _, _, _, _, _, _, _, _, _, _, _, _, _, _, _, _, _]) jw bA rfl rfl ⟨rfl, rfl, rfl, rfl, trivial⟩ rfl rfl) (cS (a6 (ak bA rfl rfl rfl (by simp only [List.forall_mem_cons]; refine ⟨rfl, rfl, rfl, rfl, rfl, rfl, rfl, rfl, rfl, rfl, rfl, rfl, rfl, rfl, rfl, rfl, rfl, rfl, rfl, rfl, fun v hv => by cases hv⟩) hb3 rfl) ?_))
 rintro _ w7 ⟨hb4, k7, z4⟩
 replace hB := hB.new k7 (nw ge_b3)
 clear z4
 replace hb4 : Bk w7 b3 _ [.int .u64 (f 0), .int .u64 (f 1), .int .u64 (f 2), .int .u64 (f 3), .int .u64 (f 4), .int .u64 (g 0), .int .u64 (g 1), .int .u64 (g 2), .int .u64 (g 3), .int .u64 (g 4), .int .u64 (hh1 0), .int .u64 (hh1 1), .int .u64 (hh1 2), .int .u64 (hh1 3), .int .u64 (hh1 4), .int .u64 (hh2 0), .int .u64 (hh2 1), .int .u64 (hh2 2), .int .u64 (hh2 3), .int .u64 (hh2 4)] := hb4
 refine aT (bP hfin Tryd.results43 rfl (ae cq bA hb4 rfl)  ?_)
 exact ⟨(vecN [(f 0), (f 1), (f 2), (f 3), (f 4), (g 0), (g 1), (g 2), (g 3), (g 4), (hh1 0), (hh1 1), (hh1 2), (hh1 3), (hh1 4), (hh2 0), (hh2 1), (hh2 2), (hh2 3), (hh2 4)]), rfl, ⟨hf, hg, E1, E2⟩, hB⟩
theorem ib (p q f : Nat → Int) (X1 Y1 Z1 T1 X2 Y2 Z2 T2 a : Fp) (hp : PtEl p X1 Y1 Z1 T1) (hq : PtEl q X2 Y2 Z2 T2) (hf : El f a) (w : World) : Rets Tryd.prog 47 [.agg (iv .u64 20 p).toArray, .agg (iv .u64 20 q).toArray, .agg (iv .u64 5 f).toArray] w (fun v w' => ∃ r, v = .agg (iv .u64 20 r).toArray ∧ PtEl r (((X1 + Y1) * (X2 + Y2) - X1 * X2 - Y1 * Y2) * (Z1 * Z2 - T1 * T2 * a)) ((Z1 * Z2 + T1 * T2 * a) * (Y1 * Y2 + X1 * X2)) ((Z1 * Z2 - T1 * T2 * a) * (Z1 * Z2 + T1 * T2 * a)) (((X1 + Y1) * (X2 + Y2) - X1 * X2 - Y1 * Y2) * (Y1 * Y2 + X1 * X2)) ∧ Keep [] w w') := by
  have hB : Keep [] w w := Keep.refl _ _
  refine a7 Tryd.func47 rfl (by decide) Tryd.ntmps47 rfl (fun fin _ hfin => aS (aR (a9 (bc (cs := [.int .u64 (p 0), .int .u64 (p 1), .int .u64 (p 2), .int .u64 (p 3), .int .u64 (p 4), .int .u64 (p 5), .int .u64 (p 6), .int .u64 (p 7), .int .u64 (p 8), .int .u64 (p 9), .int .u64 (p 10), .int .u64 (p 11), .int .u64 (p 12), .int .u64 (p 13), .int .u64 (p 14), .int .u64 (p 15), .int .u64 (p 16), .int .u64 (p 17), .int .u64 (p 18), .int .u64 (p 19)]) rfl rfl) rfl ?_)))
  rintro _ w1 ⟨b1, rfl, eb1, hb1, k1, z1⟩
  replace hB := hB.trans k1
  clear eb1 z1
  refine a9 (bc (cs := [.int .u64 (q 0), .int .u64 (q 1), .int .u64 (q 2), .int .u64 (q 3), .int .u64 (q 4), .int .u64 (q 5), .int .u64 (q 6), .int .u64 (q 7), .int .u64 (q 8), .int .u64 (q 9), .int .u64 (q 10), .int .u64 (q 11), .int .u64 (q 12), .int .u64 (q 13), .int .u64 (q 14), .int .u64 (q 15), .int .u64 (q 16), .int .u64 (q 17), .int .u64 (q 18), .int .u64 (q 19)]) rfl rfl) rfl ?_
  rintro _ w2 ⟨b2, rfl, eb2, hb2, k2, z2⟩
  obtain ⟨hB, hb1⟩ := bT k2 hB hb1
  clear eb2 z2
  refine a9 (bc (cs := [.int .u64 (f 0), .int .u64 (f 1), .int .u64 (f 2), .int .u64 (f 3), .int .u64 (f 4)]) rfl rfl) rfl ?_
  rintro _ w3 ⟨b3, rfl, eb3, hb3, k3, z3⟩
  obtain ⟨hB, hb1, hb2⟩ := cX k3 hB hb1 hb2
  clear eb3 z3
  refine a9 (ab bA) rfl ?_
  rintro _ w4 ⟨b4, rfl, eb4, hb4, k4, z4⟩
  have ge_b4 : w.heap.size ≤ b4 := by have := hB.size; omega
  obtain ⟨hB, hb1, hb2, hb3⟩ := cy k4 hB hb1 hb2 hb3
  clear eb4 z4
  refine aT (aS ?_)
  have gs1 := hB.size
  have lt1 := hb1.lt
  have lt2 := hb2.lt
  have lt3 := hb3.lt
  have lt4 := hb4.lt
  refine bJ 12 [0, 1, 2, 3, 5, 6, 7, 8, 4, 9] [4, 9] [] [(10, 43, [.int .u64 0, .int .u64 0, .int .u64 0, .int .u64 0, .int .u64 0]), (11, 43, [.int .u64 0, .int .u64 0, .int .u64 0, .int .u64 0, .int .u64 0])] mixed [(3, _), (4, _), (5, _), (6, _)] ⟨rfl, rfl, rfl, rfl, trivial⟩ (by decide +kernel) (by decide) (by decide) ?_ (fun x hx => by cases hx) rfl (fun w5 k5 => ?_)
  · simp only [List.forall_mem_cons]; exact ⟨⟨_, _, _, _, _, _, rfl, aj⟩, ⟨_, _, _, _, _, _, rfl, aj⟩, fun q hq => by cases hq⟩
  obtain ⟨hB, hb1, hb2, hb3, hb4⟩ := dg k5 hB hb1 hb2 hb3 hb4
  refine af 3 rfl rfl rfl rfl (fun W' kk => cT aE rfl aj (by decide) rfl) (af 15 rfl rfl rfl rfl (fun W' kk => aX (cs' := [_, _, _, _, _]) bG aj rfl (Bk.pK hb1 kk) rfl rfl) (af 4 rfl rfl rfl rfl (fun W' kk => cT aE rfl aj (by decide) rfl) (af 17 rfl rfl rfl rfl (fun W' kk => aX (cs' := [_, _, _, _, _]) bG aj rfl (Bk.pK hb2 kk) rfl rfl) (af 3 rfl rfl rfl rfl (fun W' kk => cT aE rfl aj (by decide) rfl) (af 20 rfl rfl rfl rfl (fun W' kk => aX (cs' := [_, _, _, _, _]) bG aj rfl (Bk.pK hb1 kk) rfl rfl) (af 4 rfl rfl rfl rfl (fun W' kk => cT aE rfl aj (by decide) rfl) (af 22 rfl rfl rfl rfl (fun W' kk => aX (cs' := [_, _, _, _, _]) bG aj rfl (Bk.pK hb2 kk) rfl rfl) (bY [(16, _), (18, _)] rfl rfl ⟨rfl, rfl, trivial⟩ rfl (fun w7 k7 => ?_)))))))))
  obtain ⟨hB, hb1, hb2, hb3, hb4⟩ := dg k7 hB hb1 hb2 hb3 hb4
  refine (aV (vs := [_, _]) rfl (az _ _ _ _ hp.1 hq.1 _)).mono ?_
  rintro _ w6 ⟨hh1, rfl, E1, k6⟩
  refine ⟨k6, nox, ?_⟩
  obtain ⟨hB, hb1, hb2, hb3, hb4⟩ := dg k6 hB hb1 hb2 hb3 hb4
  refine bY [(21, _), (23, _)] rfl rfl ⟨rfl, rfl, trivial⟩ rfl (fun w9 k9 => ?_)
  obtain ⟨hB, hb1, hb2, hb3, hb4⟩ := dg k9 hB hb1 hb2 hb3 hb4
  refine (aV (vs := [_, _]) rfl (az _ _ _ _ hp.2.1 hq.2.1 _)).mono ?_
  rintro _ w8 ⟨hh2, rfl, E2, k8⟩
  refine ⟨k8, nox, ?_⟩
  obtain ⟨hB, hb1, hb2, hb3, hb4⟩ := dg k8 hB hb1 hb2 hb3 hb4
  refine cC (fun w10 k10 => ?_)
  obtain ⟨hB, hb1, hb2, hb3, hb4⟩ := dg k10 hB hb1 hb2 hb3 hb4
  intro b5 eb5 lb1 hb5 ds1 sp1
  have ge_b5 : w.heap.size ≤ b5 := Nat.le_trans gs1 eb5
  have ne_b1_b5 : b1 ≠ b5 := Nat.ne_of_lt (Nat.lt_of_lt_of_le lt1 eb5)
  have ne_b2_b5 : b2 ≠ b5 := Nat.ne_of_lt (Nat.lt_of_lt_of_le lt2 eb5)
  have ne_b3_b5 : b3 ≠ b5 := Nat.ne_of_lt (Nat.lt_of_lt_of_le lt3 eb5)
  have ne_b4_b5 : b4 ≠ b5 := Nat.ne_of_lt (Nat.lt_of_lt_of_le lt4 eb5)
  intro b6 eb6 lb2 hb6 ds2 sp2
  have ge_b6 : w.heap.size ≤ b6 := Nat.le_trans gs1 eb6
  have ne_b1_b6 : b1 ≠ b6 := Nat.ne_of_lt (Nat.lt_of_lt_of_le lt1 eb6)
  have ne_b2_b6 : b2 ≠ b6 := Nat.ne_of_lt (Nat.lt_of_lt_of_le lt2 eb6)
  have ne_b3_b6 : b3 ≠ b6 := Nat.ne_of_lt (Nat.lt_of_lt_of_le lt3 eb6)
  have ne_b4_b6 : b4 ≠ b6 := Nat.ne_of_lt (Nat.lt_of_lt_of_le lt4 eb6)
  have ne1 := ds2 b5 (by simp)
  refine bK (a6 (ak aj rfl rfl rfl ad hb5 rfl) ?_)
  rintro _ w11 ⟨hb7, k11, z5⟩
  replace hb1 := hb1.keep k11 (nm ne_b1_b5)
  replace hb2 := hb2.keep k11 (nm ne_b2_b5)
  replace hb3 := hb3.keep k11 (nm ne_b3_b5)
  replace hb4 := hb4.keep k11 (nm ne_b4_b5)
  replace hb6 := hb6.keep k11 (nm (Ne.symm ne1))
  replace hB := hB.new k11 (nw ge_b5)
  clear z5
  replace hb7 := cv (g := hh1) hb7
  refine a6 (ak aj rfl rfl rfl ad hb6 rfl) ?_
  rintro _ w12 ⟨hb8, k12, z6⟩
  replace hb1 := hb1.keep k12 (nm ne_b1_b6)
  replace hb2 := hb2.keep k12 (nm ne_b2_b6)
  replace hb3 := hb3.keep k12 (nm ne_b3_b6)
  replace hb4 := hb4.keep k12 (nm ne_b4_b6)
  replace hb7 := hb7.keep k12 (nm ne1)
  replace hB := hB.new k12 (nw ge_b6)
  clear z6
  replace hb8 := cv (g := hh2) hb8
  refine aT (aW [(3, _), (4, _), (5, _), (6, _), (7, _), (8, _)] ⟨rfl, rfl, rfl, rfl, rfl, rfl, trivial⟩ (aS ?_))
  have gs2 := hB.size
  have lt5 := hb1.lt
  have lt6 := hb2.lt
  have lt8 := hb4.lt
  have lt9 := hb7.lt
  have lt10 := hb8.lt
  refine bJ 14 [0, 1, 2, 3, 5, 7, 8, 9, 10, 4, 6, 11] [4, 6, 11] [] [(12, 43, [.int .u64 0, .int .u64 0, .int .u64 0, .int .u64 0, .int .u64 0]), (13, 43, [.int .u64 0, .int .u64 0, .int .u64 0, .int .u64 0, .int .u64 0])] mixed [(3, _), (4, _), (5, _), (6, _), (7, _), (8, _)] ⟨rfl, rfl, rfl, rfl, rfl, rfl, trivial⟩ (by decide +kernel) (by decide) (by decide) ?_ (fun x hx => by cases hx) rfl (fun w13 k13 => ?_)
  · simp only [List.forall_mem_cons]; exact ⟨⟨_, _, _, _, _, _, rfl, aj⟩, ⟨_, _, _, _, _, _, rfl, aj⟩, fun q hq => by cases hq⟩
  obtain ⟨hB, hb1, hb2, hb3, hb4, hb7, hb8⟩ := kq6 k13 hB hb1 hb2 hb3 hb4 hb7 hb8
  refine af 3 rfl rfl rfl rfl (fun W' kk => cT aE rfl aj (by decide) rfl) (af 25 rfl rfl rfl rfl (fun W' kk => aX (cs' := [_, _, _, _, _]) bG aj rfl (Bk.pK hb1 kk) rfl rfl) (af 4 rfl rfl rfl rfl (fun W' kk => cT aE rfl aj (by decide) rfl) (af 27 rfl rfl rfl rfl (fun W' kk => aX (cs' := [_, _, _, _, _]) bG aj rfl (Bk.pK hb2 kk) rfl rfl) (af 5 rfl rfl rfl rfl (fun W' kk => aX (cs' := [_, _, _, _, _]) bG aj rfl (Bk.pK hb3 kk) rfl rfl) (af 3 rfl rfl rfl rfl (fun W' kk => cT aE rfl aj (by decide) rfl) (af 32 rfl rfl rfl rfl (fun W' kk => aX (cs' := [_, _, _, _, _]) bG aj rfl (Bk.pK hb1 kk) rfl rfl) (af 4 rfl rfl rfl rfl (fun W' kk => cT aE rfl aj (by decide) rfl) (af 34 rfl rfl rfl rfl (fun W' kk => aX (cs' := [_, _, _, _, _]) bG aj rfl (Bk.pK hb2 kk) rfl rfl) ?_))))))))
  refine bY [(26, _), (28, _)] rfl rfl ⟨rfl, rfl, trivial⟩ rfl (fun w15 k15 => ?_)
  obtain ⟨hB, hb1, hb2, hb4, hb7, hb8⟩ := dz k15 hB hb1 hb2 hb4 hb7 hb8
  refine (aV (vs := [_, _]) rfl (az _ _ _ _ hp.2.2.2 hq.2.2.2 _)).mono ?_
  rintro _ w14 ⟨hh3, rfl, E3, k14⟩
  refine ⟨k14, nox, ?_⟩
  obtain ⟨hB, hb1, hb2, hb4, hb7, hb8⟩ := dz k14 hB hb1 hb2 hb4 hb7 hb8
  refine bY [(29, _), (30, _)] rfl rfl ⟨rfl, rfl, trivial⟩ rfl (fun w17 k17 => ?_)
  obtain ⟨hB, hb1, hb2, hb4, hb7, hb8⟩ := dz k17 hB hb1 hb2 hb4 hb7 hb8
  refine (aV (vs := [_, _]) rfl (az _ _ _ _ E3 hf _)).mono ?_
  rintro _ w16 ⟨hh4, rfl, E4, k16⟩
  refine ⟨k16, nox, ?_⟩
  obtain ⟨hB, hb1, hb2, hb4, hb7, hb8⟩ := dz k16 hB hb1 hb2 hb4 hb7 hb8
  refine bY [(33, _), (35, _)] rfl rfl ⟨rfl, rfl, trivial⟩ rfl (fun w19 k19 => ?_)
  obtain ⟨hB, hb1, hb2, hb4, hb7, hb8⟩ := dz k19 hB hb1 hb2 hb4 hb7 hb8
  refine (aV (vs := [_, _]) rfl (az _ _ _ _ hp.2.2.1 hq.2.2.1 _)).mono ?_
  rintro _ w18 ⟨hh5, rfl, E5, k18⟩
  refine ⟨k18, nox, ?_⟩
  obtain ⟨hB, hb1, hb2, hb4, hb7, hb8⟩ := dz k18 hB hb1 hb2 hb4 hb7 hb8
  refine cC (fun w20 k20 => ?_)
  obtain ⟨hB, hb1, hb2, hb4, hb7, hb8⟩ := dz k20 hB hb1 hb2 hb4 hb7 hb8
  intro b7 eb7 lb3 hb9 ds3 sp3
  have ge_b7 : w.heap.size ≤ b7 := Nat.le_trans gs2 eb7
  have ne_b1_b7 : b1 ≠ b7 := Nat.ne_of_lt (Nat.lt_of_lt_of_le lt5 eb7)
  have ne_b2_b7 : b2 ≠ b7 := Nat.ne_of_lt (Nat.lt_of_lt_of_le lt6 eb7)
  have ne_b4_b7 : b4 ≠ b7 := Nat.ne_of_lt (Nat.lt_of_lt_of_le lt8 eb7)
  have ne_b5_b7 : b5 ≠ b7 := Nat.ne_of_lt (Nat.lt_of_lt_of_le lt9 eb7)
  have ne_b6_b7 : b6 ≠ b7 := Nat.ne_of_lt (Nat.lt_of_lt_of_le lt10 eb7)
  intro b8 eb8 lb4 hb10 ds4 sp4
  have ge_b8 : w.heap.size ≤ b8 := Nat.le_trans gs2 eb8
  have ne_b1_b8 : b1 ≠ b8 := Nat.ne_of_lt (Nat.lt_of_lt_of_le lt5 eb8)
  have ne_b2_b8 : b2 ≠ b8 := Nat.ne_of_lt (Nat.lt_of_lt_of_le lt6 eb8)
  have ne_b4_b8 : b4 ≠ b8 := Nat.ne_of_lt (Nat.lt_of_lt_of_le lt8 eb8)
  have ne_b5_b8 : b5 ≠ b8 := Nat.ne_of_lt (Nat.lt_of_lt_of_le lt9 eb8)
  have ne_b6_b8 : b6 ≠ b8 := Nat.ne_of_lt (Nat.lt_of_lt_of_le lt10 eb8)
  have ne2 := ds4 b7 (by simp)
  refine bK (a6 (ak aj rfl rfl rfl ad hb9 rfl) ?_)
  rintro _ w21 ⟨hb11, k21, z7⟩
  replace hb1 := hb1.keep k21 (nm ne_b1_b7)
  replace hb2 := hb2.keep k21 (nm ne_b2_b7)
  replace hb4 := hb4.keep k21 (nm ne_b4_b7)
  replace hb7 := hb7.keep k21 (nm ne_b5_b7)
  replace hb8 := hb8.keep k21 (nm ne_b6_b7)
  replace hb10 := hb10.keep k21 (nm (Ne.symm ne2))
  replace hB := hB.new k21 (nw ge_b7)
  clear z7
  replace hb11 := cv (g := hh4) hb11
  refine a6 (ak aj rfl rfl rfl ad hb10 rfl) ?_
  rintro _ w22 ⟨hb12, k22, z8⟩
  replace hb1 := hb1.keep k22 (nm ne_b1_b8)
  replace hb2 := hb2.keep k22 (nm ne_b2_b8)
  replace hb4 := hb4.keep k22 (nm ne_b4_b8)
  replace hb7 := hb7.keep k22 (nm ne_b5_b8)
  replace hb8 := hb8.keep k22 (nm ne_b6_b8)
  replace hb11 := hb11.keep k22 (nm ne2)
  replace hB := hB.new k22 (nw ge_b8)
  clear z8
  replace hb12 := cv (g := hh5) hb12
  refine aT (aW [(3, _), (4, _), (6, _), (7, _), (8, _), (9, _), (10, _)] ⟨rfl, rfl, rfl, rfl, rfl, rfl, rfl, trivial⟩ (aS ?_))
  have gs3 := hB.size
  have lt13 := hb4.lt
  have lt14 := hb7.lt
  have lt15 := hb8.lt
  have lt16 := hb11.lt
  have lt17 := hb12.lt
  refine bJ 16 [0, 1, 2, 3, 5, 6, 7, 8, 11, 13, 4, 9, 10, 12, 14] [4, 9, 10, 12, 14] [] [(15, 43, [.int .u64 0, .int .u64 0, .int .u64 0, .int .u64 0, .int .u64 0])] mixed [(3, _), (4, _), (7, _), (8, _), (6, _), (9, _), (10, _)] ⟨rfl, rfl, rfl, rfl, rfl, rfl, rfl, trivial⟩ (by decide +kernel) (by decide) (by decide) ?_ (fun x hx => by cases hx) rfl (fun w23 k23 => ?_)
  · simp only [List.forall_mem_cons]; exact ⟨⟨_, _, _, _, _, _, rfl, aj⟩, fun q hq => by cases hq⟩
  obtain ⟨hB, hb1, hb2, hb4, hb7, hb8, hb11, hb12⟩ := kq7 k23 hB hb1 hb2 hb4 hb7 hb8 hb11 hb12
  refine af 3 rfl rfl rfl rfl (fun W' kk => cT aE rfl aj (by decide) rfl) (af 37 rfl rfl rfl rfl (fun W' kk => aX (cs' := [_, _, _, _, _]) bG aj rfl (Bk.pK hb1 kk) rfl rfl) (af 3 rfl rfl rfl rfl (fun W' kk => cT aE rfl aj (by decide) rfl) (af 39 rfl rfl rfl rfl (fun W' kk => aX (cs' := [_, _, _, _, _]) bG aj rfl (Bk.pK hb1 kk) rfl rfl) (af 4 rfl rfl rfl rfl (fun W' kk => cT aE rfl aj (by decide) rfl) (af 42 rfl rfl rfl rfl (fun W' kk => aX (cs' := [_, _, _, _, _]) bG aj rfl (Bk.pK hb2 kk) rfl rfl) (af 4 rfl rfl rfl rfl (fun W' kk => cT aE rfl aj (by decide) rfl) (af 44 rfl rfl rfl rfl (fun W' kk => aX (cs' := [_, _, _, _, _]) bG aj rfl (Bk.pK hb2 kk) rfl rfl) (af 7 rfl rfl rfl rfl (fun W' kk => aX (cs' := [_, _, _, _, _]) bG aj rfl (Bk.pK hb7 kk) rfl rfl) ?_))))))))
  refine af 8 rfl rfl rfl rfl (fun W' kk => aX (cs' := [_, _, _, _, _]) bG aj rfl (Bk.pK hb8 kk) rfl rfl) (bY [(38, _), (40, _)] rfl rfl ⟨rfl, rfl, trivial⟩ rfl (fun w25 k25 => ?_))
  obtain ⟨hB, hb4, hb7, hb8, hb11, hb12⟩ := dz k25 hB hb4 hb7 hb8 hb11 hb12
  refine (aV (vs := [_, _]) rfl (cz _ _ _ _ hp.1 hp.2.1 _)).mono ?_
  rintro _ w24 ⟨hh6, rfl, E6, k24⟩
  refine ⟨k24, nox, ?_⟩
  obtain ⟨hB, hb4, hb7, hb8, hb11, hb12⟩ := dz k24 hB hb4 hb7 hb8 hb11 hb12
  refine bY [(43, _), (45, _)] rfl rfl ⟨rfl, rfl, trivial⟩ rfl (fun w27 k27 => ?_)
  obtain ⟨hB, hb4, hb7, hb8, hb11, hb12⟩ := dz k27 hB hb4 hb7 hb8 hb11 hb12
  refine (aV (vs := [_, _]) rfl (cz _ _ _ _ hq.1 hq.2.1 _)).mono ?_
  rintro _ w26 ⟨hh7, rfl, E7, k26⟩
  refine ⟨k26, nox, ?_⟩
  obtain ⟨hB, hb4, hb7, hb8, hb11, hb12⟩ := dz k26 hB hb4 hb7 hb8 hb11 hb12
  refine bY [(41, _), (46, _)] rfl rfl ⟨rfl, rfl, trivial⟩ rfl (fun w29 k29 => ?_)
  obtain ⟨hB, hb4, hb7, hb8, hb11, hb12⟩ := dz k29 hB hb4 hb7 hb8 hb11 hb12
  refine (aV (vs := [_, _]) rfl (az _ _ _ _ E6 E7 _)).mono ?_
  rintro _ w28 ⟨hh8, rfl, E8, k28⟩
  refine ⟨k28, nox, ?_⟩
  obtain ⟨hB, hb4, hb7, hb8, hb11, hb12⟩ := dz k28 hB hb4 hb7 hb8 hb11 hb12
  refine bY [(47, _), (48, _)] rfl rfl ⟨rfl, rfl, trivial⟩ rfl (fun w31 k31 => ?_)
  obtain ⟨hB, hb4, hb7, hb8, hb11, hb12⟩ := dz k31 hB hb4 hb7 hb8 hb11 hb12
  refine (aV (vs := [_, _]) rfl (dL _ _ _ _ E8 E1 _)).mono ?_
  rintro _ w30 ⟨hh9, rfl, E9, k30⟩
  refine ⟨k30, nox, ?_⟩
  obtain ⟨hB, hb4, hb7, hb8, hb11, hb12⟩ := dz k30 hB hb4 hb7 hb8 hb11 hb12
  refine bY [(49, _), (50, _)] rfl rfl ⟨rfl, rfl, trivial⟩ rfl (fun w33 k33 => ?_)
  obtain ⟨hB, hb4, hb7, hb8, hb11, hb12⟩ := dz k33 hB hb4 hb7 hb8 hb11 hb12
  refine (aV (vs := [_, _]) rfl (dL _ _ _ _ E9 E2 _)).mono ?_
  rintro _ w32 ⟨hh10, rfl, E10, k32⟩
  refine ⟨k32, nox, ?_⟩
  obtain ⟨hB, hb4, hb7, hb8, hb11, hb12⟩ := dz k32 hB hb4 hb7 hb8 hb11 hb12
  refine cC (fun w34 k34 => ?_)
  obtain ⟨hB, hb4, hb7, hb8, hb11, hb12⟩ := dz k34 hB hb4 hb7 hb8 hb11 hb12
  intro b9 eb9 lb5 hb13 ds5 sp5
  have ge_b9 : w.heap.size ≤ b9 := Nat.le_trans gs3 eb9
  have ne_b4_b9 : b4 ≠ b9 := Nat.ne_of_lt (Nat.lt_of_lt_of_le lt13 eb9)
  have ne_b5_b9 : b5 ≠ b9 := Nat.ne_of_lt (Nat.lt_of_lt_of_le lt14 eb9)
  have ne_b6_b9 : b6 ≠ b9 := Nat.ne_of_lt (Nat.lt_of_lt_of_le lt15 eb9)
  have ne_b7_b9 : b7 ≠ b9 := Nat.ne_of_lt (Nat.lt_of_lt_of_le lt16 eb9)
  have ne_b8_b9 : b8 ≠ b9 := Nat.ne_of_lt (Nat.lt_of_lt_of_le lt17 eb9)
  refine bK (a6 (ak aj rfl rfl rfl ad hb13 rfl) ?_)
  rintro _ w35 ⟨hb14, k35, z9⟩
  replace hb4 := hb4.keep k35 (nm ne_b4_b9)
  replace hb7 := hb7.keep k35 (nm ne_b5_b9)
  replace hb8 := hb8.keep k35 (nm ne_b6_b9)
  replace hb11 := hb11.keep k35 (nm ne_b7_b9)
  replace hb12 := hb12.keep k35 (nm ne_b8_b9)
  replace hB := hB.new k35 (nw ge_b9)
  clear z9
  replace hb14 := cv (g := hh10) hb14
  refine aT (aW [(7, _), (8, _), (6, _), (9, _), (10, _), (11, _)] ⟨rfl, rfl, rfl, rfl, rfl, rfl, trivial⟩ (aS ?_))
  have gs4 := hB.size
  have lt18 := hb4.lt
  have lt23 := hb14.lt
  refine bJ 12 [0, 1, 3, 4, 6, 7, 2, 5, 8] [2, 5, 8] [] [(9, 43, [.int .u64 0, .int .u64 0, .int .u64 0, .int .u64 0, .int .u64 0]), (10, 43, [.int .u64 0, .int .u64 0, .int .u64 0, .int .u64 0, .int .u64 0]), (11, 43, [.int .u64 0, .int .u64 0, .int .u64 0, .int .u64 0, .int .u64 0])] mixed [(10, _), (9, _), (8, _), (7, _), (6, _), (11, _)] ⟨rfl, rfl, rfl, rfl, rfl, rfl, trivial⟩ (by decide +kernel) (by decide) (by decide) ?_ (fun x hx => by cases hx) rfl (fun w36 k36 => ?_)
  · simp only [List.forall_mem_cons]; exact ⟨⟨_, _, _, _, _, _, rfl, aj⟩, ⟨_, _, _, _, _, _, rfl, aj⟩, ⟨_, _, _, _, _, _, rfl, aj⟩, fun q hq => by cases hq⟩
  obtain ⟨hB, hb4, hb7, hb8, hb11, hb12, hb14⟩ := kq6 k36 hB hb4 hb7 hb8 hb11 hb12 hb14
  refine af 10 rfl rfl rfl rfl (fun W' kk => aX (cs' := [_, _, _, _, _]) bG aj rfl (Bk.pK hb12 kk) rfl rfl) (af 9 rfl rfl rfl rfl (fun W' kk => aX (cs' := [_, _, _, _, _]) bG aj rfl (Bk.pK hb11 kk) rfl rfl) (af 10 rfl rfl rfl rfl (fun W' kk => aX (cs' := [_, _, _, _, _]) bG aj rfl (Bk.pK hb12 kk) rfl rfl) (af 9 rfl rfl rfl rfl (fun W' kk => aX (cs' := [_, _, _, _, _]) bG aj rfl (Bk.pK hb11 kk) rfl rfl) (af 8 rfl rfl rfl rfl (fun W' kk => aX (cs' := [_, _, _, _, _]) bG aj rfl (Bk.pK hb8 kk) rfl rfl) (af 7 rfl rfl rfl rfl (fun W' kk => aX (cs' := [_, _, _, _, _]) bG aj rfl (Bk.pK hb7 kk) rfl rfl) (bY [(52, _), (53, _)] rfl rfl ⟨rfl, rfl, trivial⟩ rfl (fun w38 k38 => ?_)))))))
  obtain ⟨hB, hb4, hb14⟩ := cX k38 hB hb4 hb14
  refine (aV (vs := [_, _]) rfl (dL _ _ _ _ E5 E4 _)).mono ?_
  rintro _ w37 ⟨hh11, rfl, E11, k37⟩
  refine ⟨k37, nox, ?_⟩
  obtain ⟨hB, hb4, hb14⟩ := cX k37 hB hb4 hb14
  refine bY [(55, _), (56, _)] rfl rfl ⟨rfl, rfl, trivial⟩ rfl (fun w40 k40 => ?_)
  obtain ⟨hB, hb4, hb14⟩ := cX k40 hB hb4 hb14
  refine (aV (vs := [_, _]) rfl (cz _ _ _ _ E5 E4 _)).mono ?_
  rintro _ w39 ⟨hh12, rfl, E12, k39⟩
  refine ⟨k39, nox, ?_⟩
  obtain ⟨hB, hb4, hb14⟩ := cX k39 hB hb4 hb14
  refine bY [(58, _), (59, _)] rfl rfl ⟨rfl, rfl, trivial⟩ rfl (fun w42 k42 => ?_)
  obtain ⟨hB, hb4, hb14⟩ := cX k42 hB hb4 hb14
  refine (aV (vs := [_, _]) rfl (cz _ _ _ _ E2 E1 _)).mono ?_
  rintro _ w41 ⟨hh13, rfl, E13, k41⟩
  refine ⟨k41, nox, ?_⟩
  obtain ⟨hB, hb4, hb14⟩ := cX k41 hB hb4 hb14
  refine cC (fun w43 k43 => ?_)
  obtain ⟨hB, hb4, hb14⟩ := cX k43 hB hb4 hb14
  intro b10 eb10 lb6 hb15 ds6 sp6
  have ge_b10 : w.heap.size ≤ b10 := Nat.le_trans gs4 eb10
  have ne_b4_b10 : b4 ≠ b10 := Nat.ne_of_lt (Nat.lt_of_lt_of_le lt18 eb10)
  have ne_b9_b10 : b9 ≠ b10 := Nat.ne_of_lt (Nat.lt_of_lt_of_le lt23 eb10)
  intro b11 eb11 lb7 hb16 ds7 sp7
  have ge_b11 : w.heap.size ≤ b11 := Nat.le_trans gs4 eb11
  have ne_b4_b11 : b4 ≠ b11 := Nat.ne_of_lt (Nat.lt_of_lt_of_le lt18 eb11)
  have ne_b9_b11 : b9 ≠ b11 := Nat.ne_of_lt (Nat.lt_of_lt_of_le lt23 eb11)
  have ne3 := ds7 b10 (by simp)
  intro b12 eb12 lb8 hb17 ds8 sp8
  have ge_b12 : w.heap.size ≤ b12 := Nat.le_trans gs4 eb12
  have ne_b4_b12 : b4 ≠ b12 := Nat.ne_of_lt (Nat.lt_of_lt_of_le lt18 eb12)
  have ne_b9_b12 : b9 ≠ b12 := Nat.ne_of_lt (Nat.lt_of_lt_of_le lt23 eb12)
  have ne4 := ds8 b10 (by simp)
  have ne5 := ds8 b11 (by simp)
  refine bK (a6 (ak aj rfl rfl rfl ad hb15 rfl) ?_)
  rintro _ w44 ⟨hb18, k44, z10⟩
  replace hb4 := hb4.keep k44 (nm ne_b4_b10)
  replace hb14 := hb14.keep k44 (nm ne_b9_b10)
  replace hb16 := hb16.keep k44 (nm (Ne.symm ne3))
  replace hb17 := hb17.keep k44 (nm (Ne.symm ne4))
  replace hB := hB.new k44 (nw ge_b10)
  clear z10
  replace hb18 := cv (g := hh11) hb18
  refine a6 (ak aj rfl rfl rfl ad hb16 rfl) ?_
  rintro _ w45 ⟨hb19, k45, z11⟩
  replace hb4 := hb4.keep k45 (nm ne_b4_b11)
  replace hb14 := hb14.keep k45 (nm ne_b9_b11)
  replace hb17 := hb17.keep k45 (nm (Ne.symm ne5))
  replace hb18 := hb18.keep k45 (nm ne3)
  replace hB := hB.new k45 (nw ge_b11)
  clear z11
  replace hb19 := cv (g := hh12) hb19
  refine a6 (ak aj rfl rfl rfl ad hb17 rfl) ?_
  rintro _ w46 ⟨hb20, k46, z12⟩
  replace hb4 := hb4.keep k46 (nm ne_b4_b12)
  replace hb14 := hb14.keep k46 (nm ne_b9_b12)
  replace hb18 := hb18.keep k46 (nm ne4)
  replace hb19 := hb19.keep k46 (nm ne5)
  replace hB := hB.new k46 (nw ge_b12)
  clear z12
  replace hb20 := cv (g := hh13) hb20
  refine aT (aW [(6, _), (11, _), (12, _), (13, _), (14, _)] ⟨rfl, rfl, rfl, rfl, rfl, trivial⟩ (aS (bz 13 [0, 1, 3, 4, 6, 7, 9, 10, 2, 5, 8, 11, 12] [2, 5, 8, 11] [] mixed [(11, _), (12, _), (13, _), (14, _), (6, _)] ⟨rfl, rfl, rfl, rfl, rfl, trivial⟩ (by decide +kernel) rfl (fun w47 k47 => ?_))))
  obtain ⟨hB, hb4, hb14, hb18, hb19, hb20⟩ := dz k47 hB hb4 hb14 hb18 hb19 hb20
  refine ao 11 rfl rfl rfl rfl (fun W' kk => aX (cs' := [_, _, _, _, _]) bG aj rfl (Bk.pK hb14 kk) rfl rfl) (ao 12 rfl rfl rfl rfl (fun W' kk => aX (cs' := [_, _, _, _, _]) bG aj rfl (Bk.pK hb18 kk) rfl rfl) (ao 13 rfl rfl rfl rfl (fun W' kk => aX (cs' := [_, _, _, _, _]) bG aj rfl (Bk.pK hb19 kk) rfl rfl) (ao 14 rfl rfl rfl rfl (fun W' kk => aX (cs' := [_, _, _, _, _]) bG aj rfl (Bk.pK hb20 kk) rfl rfl) (ao 12 rfl rfl rfl rfl (fun W' kk => aX (cs' := [_, _, _, _, _]) bG aj rfl (Bk.pK hb18 kk) rfl rfl) (ao 13 rfl rfl rfl rfl (fun W' kk => aX (cs' := [_, _, _, _, _]) bG aj rfl (Bk.pK hb19 kk) rfl rfl) (ao 11 rfl rfl rfl rfl (fun W' kk => aX (cs' := [_, _, _, _, _]) bG aj rfl (Bk.pK hb14 kk) rfl rfl) (ao 14 rfl rfl rfl rfl (fun W' kk => aX (cs' := [_, _, _, _, _]) bG aj rfl (Bk.pK hb20 kk) rfl rfl) (bx [(61, _), (62, _)] rfl rfl ⟨rfl, rfl, trivial⟩ rfl (aV (vs := [_, _]) rfl (az _ _ _ _ E10 E11 _)) ?_))))))))
  rintro _ w48 ⟨hh14, rfl, E14, k48⟩
  refine ⟨k48, ?_⟩
  obtain ⟨hB, hb4⟩ := bT k48 hB hb4
  refine bx [(64, _), (65, _)] rfl rfl ⟨rfl, rfl, trivial⟩ rfl (aV (vs := [_, _]) rfl (az _ _ _ _ E12 E13 _)) ?_
  rintro _ w49 ⟨hh15, rfl, E15, k49⟩
  refine ⟨k49, ?_⟩
  obtain ⟨hB, hb4⟩ := bT k49 hB hb4
  refine bx [(67, _), (68, _)] rfl rfl ⟨rfl, rfl, trivial⟩ rfl (aV (vs := [_, _]) rfl (az _ _ _ _ E11 E12 _)) ?_
  rintro _ w50 ⟨hh16, rfl, E16, k50⟩
  refine ⟨k50, ?_⟩
  obtain ⟨hB, hb4⟩ := bT k50 hB hb4
  refine bx [(70, _), (71, _)] rfl rfl ⟨rfl, rfl, trivial⟩ rfl (aV (vs := [_, _]) rfl (az _ _ _ _ E10 E13 _)) ?_
  rintro _ w51 ⟨hh17, rfl, E17, k51⟩
  refine ⟨k51, ?_⟩
  obtain ⟨hB, hb4⟩ := bT k51 hB hb4
  refine mb [(63, _), (66, _), (69, _), (72, _)] rfl rfl ⟨rfl, rfl, rfl, rfl, trivial⟩ rfl (fun W' kk => cd (idx := [0, 1, 2, 3]) (xs := [.tmp 63, .tmp 66, .tmp 69, .tmp 72]) (vs := [_, _, _, _]) (css := [[_, _, _, _, _], [_, _, _, _, _], [_, _, _, _, _], [_, _, _, _, _]]) (out := [_, _, _, _, _, _, _, _, _, _, _, _, _, _, _, _, _, _, _, _]) jw bA rfl rfl ⟨rfl, rfl, rfl, rfl, trivial⟩ rfl rfl) (cS (a6 (ak bA rfl rfl rfl (by simp only [List.forall_mem_cons]; refine ⟨rfl, rfl, rfl, rfl, rfl, rfl, rfl, rfl, rfl, rfl, rfl, rfl, rfl, rfl, rfl, rfl, rfl, rfl, rfl, rfl, fun v hv => by cases hv⟩) hb4 rfl) ?_))
  rintro _ w52 ⟨hb21, k52, z13⟩
  replace hB := hB.new k52 (nw ge_b4)
  clear z13
  replace hb21 : Bk w52 b4 _ [.int .u64 (hh14 0), .int .u64 (hh14 1), .int .u64 (hh14 2), .int .u64 (hh14 3), .int .u64 (hh14 4), .int .u64 (hh15 0), .int .u64 (hh15 1), .int .u64 (hh15 2), .int .u64 (hh15 3), .int .u64 (hh15 4), .int .u64 (hh16 0), .int .u64 (hh16 1), .int .u64 (hh16 2), .int .u64 (hh16 3), .int .u64 (hh16 4), .int .u64 (hh17 0), .int .u64 (hh17 1), .int .u64 (hh17 2), .int .u64 (hh17 3), .int .u64 (hh17 4)] := hb21
  refine aT (aW [(6, _)] ⟨rfl, trivial⟩ (bP hfin Tryd.results47 rfl (ae cq bA hb21 rfl)  ?_))
  exact ⟨(vecN [(hh14 0), (hh14 1), (hh14 2), (hh14 3), (hh14 4), (hh15 0), (hh15 1), (hh15 2), (hh15 3), (hh15 4), (hh16 0), (hh16 1), (hh16 2), (hh16 3), (hh16 4), (hh17 0), (hh17 1), (hh17 2), (hh17 3), (hh17 4)]), rfl, ⟨E14, E15, E16, E17⟩, hB⟩
theorem jz (p : Nat → Int) (X1 Y1 Z1 T1 : Fp) (hp : PtEl p X1 Y1 Z1 T1) (w : World) : Rets Tryd.prog 48 [.agg (iv .u64 20 p).toArray] w (fun v w' => ∃ r, v = .agg (iv .u64 20 r).toArray ∧ PtEl r ((X1 * X1 + Y1 * Y1 - (X1 + Y1) * (X1 + Y1)) * (Z1 * Z1 + Z1 * Z1 + (X1 * X1 - Y1 * Y1))) ((X1 * X1 - Y1 * Y1) * (X1 * X1 + Y1 * Y1)) ((Z1 * Z1 + Z1 * Z1 + (X1 * X1 - Y1 * Y1)) * (X1 * X1 - Y1 * Y1)) ((X1 * X1 + Y1 * Y1 - (X1 + Y1) * (X1 + Y1)) * (X1 * X1 + Y1 * Y1)) ∧ Keep [] w w') := by
  have hB : Keep [] w w := Keep.refl _ _
  refine a7 Tryd.func48 rfl (by decide) Tryd.ntmps48 rfl (fun fin _ hfin => aS (aR (a9 (bc (cs := [.int .u64 (p 0), .int .u64 (p 1), .int .u64 (p 2), .int .u64 (p 3), .int .u64 (p 4), .int .u64 (p 5), .int .u64 (p 6), .int .u64 (p 7), .int .u64 (p 8), .int .u64 (p 9), .int .u64 (p 10), .int .u64 (p 11), .int .u64 (p 12), .int .u64 (p 13), .int .u64 (p 14), .int .u64 (p 15), .int .u64 (p 16), .int .u64 (p 17), .int .u64 (p 18), .int .u64 (p 19)]) rfl rfl) rfl ?_)))
  rintro _ w1 ⟨b1, rfl, eb1, hb1, k1, z1⟩
  replace hB := hB.trans k1
  clear eb1 z1
  refine a9 (ab bA) rfl ?_
  rintro _ w2 ⟨b2, rfl, eb2, hb2, k2, z2⟩
  have ge_b2 : w.heap.size ≤ b2 := by have := hB.size; omega
  obtain ⟨hB, hb1⟩ := bT k2 hB hb1
  clear eb2 z2
  refine aT (aS ?_)
  have gs1 := hB.size
  have lt1 := hb1.lt
  have lt2 := hb2.lt
  refine bJ 18 [0, 1, 2, 3, 5, 6, 7, 8, 10, 11, 12, 13, 4, 9, 14] [4, 9, 14] [] [(15, 43, [.int .u64 0, .int .u64 0, .int .u64 0, .int .u64 0, .int .u64 0]), (16, 43, [.int .u64 0, .int .u64 0, .int .u64 0, .int .u64 0, .int .u64 0]), (17, 43, [.int .u64 0, .int .u64 0, .int .u64 0, .int .u64 0, .int .u64 0])] mixed [(1, _), (2, _)] ⟨rfl, rfl, trivial⟩ (by decide +kernel) (by decide) (by decide) ?_ (fun x hx => by cases hx) rfl (fun w3 k3 => ?_)
  · simp only [List.forall_mem_cons]; exact ⟨⟨_, _, _, _, _, _, rfl, aj⟩, ⟨_, _, _, _, _, _, rfl, aj⟩, ⟨_, _, _, _, _, _, rfl, aj⟩, fun q hq => by cases hq⟩
  obtain ⟨hB, hb1, hb2⟩ := cX k3 hB hb1 hb2
  refine af 1 rfl rfl rfl rfl (fun W' kk => cT aE rfl aj (by decide) rfl) (af 11 rfl rfl rfl rfl (fun W' kk => aX (cs' := [_, _, _, _, _]) bG aj rfl (Bk.pK hb1 kk) rfl rfl) (af 1 rfl rfl rfl rfl (fun W' kk => cT aE rfl aj (by decide) rfl) (af 13 rfl rfl rfl rfl (fun W' kk => aX (cs' := [_, _, _, _, _]) bG aj rfl (Bk.pK hb1 kk) rfl rfl) (af 1 rfl rfl rfl rfl (fun W' kk => cT aE rfl aj (by decide) rfl) (af 16 rfl rfl rfl rfl (fun W' kk => aX (cs' := [_, _, _, _, _]) bG aj rfl (Bk.pK hb1 kk) rfl rfl) (af 1 rfl rfl rfl rfl (fun W' kk => cT aE rfl aj (by decide) rfl) (af 18 rfl rfl rfl rfl (fun W' kk => aX (cs' := [_, _, _, _, _]) bG aj rfl (Bk.pK hb1 kk) rfl rfl) (af 1 rfl rfl rfl rfl (fun W' kk => cT aE rfl aj (by decide) rfl) ?_))))))))
  refine af 21 rfl rfl rfl rfl (fun W' kk => aX (cs' := [_, _, _, _, _]) bG aj rfl (Bk.pK hb1 kk) rfl rfl) (af 1 rfl rfl rfl rfl (fun W' kk => cT aE rfl aj (by decide) rfl) (af 23 rfl rfl rfl rfl (fun W' kk => aX (cs' := [_, _, _, _, _]) bG aj rfl (Bk.pK hb1 kk) rfl rfl) (bY [(12, _), (14, _)] rfl rfl ⟨rfl, rfl, trivial⟩ rfl (fun w5 k5 => ?_))))
  obtain ⟨hB, hb1, hb2⟩ := cX k5 hB hb1 hb2
  refine (aV (vs := [_, _]) rfl (az _ _ _ _ hp.1 hp.1 _)).mono ?_
  rintro _ w4 ⟨hh1, rfl, E1, k4⟩
  refine ⟨k4, nox, ?_⟩
  obtain ⟨hB, hb1, hb2⟩ := cX k4 hB hb1 hb2
  refine bY [(17, _), (19, _)] rfl rfl ⟨rfl, rfl, trivial⟩ rfl (fun w7 k7 => ?_)
  obtain ⟨hB, hb1, hb2⟩ := cX k7 hB hb1 hb2
  refine (aV (vs := [_, _]) rfl (az _ _ _ _ hp.2.1 hp.2.1 _)).mono ?_
  rintro _ w6 ⟨hh2, rfl, E2, k6⟩
  refine ⟨k6, nox, ?_⟩
  obtain ⟨hB, hb1, hb2⟩ := cX k6 hB hb1 hb2
  refine bY [(22, _), (24, _)] rfl rfl ⟨rfl, rfl, trivial⟩ rfl (fun w9 k9 => ?_)
  obtain ⟨hB, hb1, hb2⟩ := cX k9 hB hb1 hb2
  refine (aV (vs := [_, _]) rfl (az _ _ _ _ hp.2.2.1 hp.2.2.1 _)).mono ?_
  rintro _ w8 ⟨hh3, rfl, E3, k8⟩
  refine ⟨k8, nox, ?_⟩
  obtain ⟨hB, hb1, hb2⟩ := cX k8 hB hb1 hb2
  refine cC (fun w10 k10 => ?_)
  obtain ⟨hB, hb1, hb2⟩ := cX k10 hB hb1 hb2
  intro b3 eb3 lb1 hb3 ds1 sp1
  have ge_b3 : w.heap.size ≤ b3 := Nat.le_trans gs1 eb3
  have ne_b1_b3 : b1 ≠ b3 := Nat.ne_of_lt (Nat.lt_of_lt_of_le lt1 eb3)
  have ne_b2_b3 : b2 ≠ b3 := Nat.ne_of_lt (Nat.lt_of_lt_of_le lt2 eb3)
  intro b4 eb4 lb2 hb4 ds2 sp2
  have ge_b4 : w.heap.size ≤ b4 := Nat.le_trans gs1 eb4
  have ne_b1_b4 : b1 ≠ b4 := Nat.ne_of_lt (Nat.lt_of_lt_of_le lt1 eb4)
  have ne_b2_b4 : b2 ≠ b4 := Nat.ne_of_lt (Nat.lt_of_lt_of_le lt2 eb4)
  have ne1 := ds2 b3 (by simp)
  intro b5 eb5 lb3 hb5 ds3 sp3
  have ge_b5 : w.heap.size ≤ b5 := Nat.le_trans gs1 eb5
  have ne_b1_b5 : b1 ≠ b5 := Nat.ne_of_lt (Nat.lt_of_lt_of_le lt1 eb5)
  have ne_b2_b5 : b2 ≠ b5 := Nat.ne_of_lt (Nat.lt_of_lt_of_le lt2 eb5)
  have ne2 := ds3 b3 (by simp)
  have ne3 := ds3 b4 (by simp)
  refine bK (a6 (ak aj rfl rfl rfl ad hb3 rfl) ?_)
  rintro _ w11 ⟨hb6, k11, z3⟩
  replace hb1 := hb1.keep k11 (nm ne_b1_b3)
  replace hb2 := hb2.keep k11 (nm ne_b2_b3)
  replace hb4 := hb4.keep k11 (nm (Ne.symm ne1))
  replace hb5 := hb5.keep k11 (nm (Ne.symm ne2))
  replace hB := hB.new k11 (nw ge_b3)
  clear z3
  replace hb6 := cv (g := hh1) hb6
  refine a6 (ak aj rfl rfl rfl ad hb4 rfl) ?_
  rintro _ w12 ⟨hb7, k12, z4⟩
  replace hb1 := hb1.keep k12 (nm ne_b1_b4)
  replace hb2 := hb2.keep k12 (nm ne_b2_b4)
  replace hb5 := hb5.keep k12 (nm (Ne.symm ne3))
  replace hb6 := hb6.keep k12 (nm ne1)
  replace hB := hB.new k12 (nw ge_b4)
  clear z4
  replace hb7 := cv (g := hh2) hb7
  refine a6 (ak aj rfl rfl rfl ad hb5 rfl) ?_
  rintro _ w13 ⟨hb8, k13, z5⟩
  replace hb1 := hb1.keep k13 (nm ne_b1_b5)
  replace hb2 := hb2.keep k13 (nm ne_b2_b5)
  replace hb6 := hb6.keep k13 (nm ne2)
  replace hb7 := hb7.keep k13 (nm ne3)
  replace hB := hB.new k13 (nw ge_b5)
  clear z5
  replace hb8 := cv (g := hh3) hb8
  refine aT (aW [(1, _), (2, _), (3, _), (4, _), (5, _)] ⟨rfl, rfl, rfl, rfl, rfl, trivial⟩ (aS (aR (aU (cT aE rfl aj (by decide) rfl) rfl (aU (aX (cs' := [_, _, _, _, _]) bG aj rfl hb1 rfl rfl) rfl (aU (cT aE rfl aj (by decide) rfl) rfl (aU (aX (cs' := [_, _, _, _, _]) bG aj rfl hb1 rfl rfl) rfl (a9 (aV (vs := [_, _]) rfl (cz _ _ _ _ hp.1 hp.2.1 _)) rfl ?_))))))))
  rintro _ w14 ⟨hh4, rfl, E4, k14⟩
  obtain ⟨hB, hb2, hb6, hb7, hb8⟩ := dg k14 hB hb2 hb6 hb7 hb8
  refine a9 (ab aj) rfl ?_
  rintro _ w15 ⟨b6, rfl, eb6, hb9, k15, z6⟩
  have ge_b6 : w.heap.size ≤ b6 := by have := hB.size; omega
  have ne_b2_b6 : b2 ≠ b6 := by have := hb2.lt; omega
  have ne_b3_b6 : b3 ≠ b6 := by have := hb6.lt; omega
  have ne_b4_b6 : b4 ≠ b6 := by have := hb7.lt; omega
  have ne_b5_b6 : b5 ≠ b6 := by have := hb8.lt; omega
  obtain ⟨hB, hb2, hb6, hb7, hb8⟩ := dg k15 hB hb2 hb6 hb7 hb8
  clear eb6 z6
  refine a6 (ak aj rfl rfl rfl ad hb9 rfl) ?_
  rintro _ w16 ⟨hb10, k16, z7⟩
  replace hb2 := hb2.keep k16 (nm ne_b2_b6)
  replace hb6 := hb6.keep k16 (nm ne_b3_b6)
  replace hb7 := hb7.keep k16 (nm ne_b4_b6)
  replace hb8 := hb8.keep k16 (nm ne_b5_b6)
  replace hB := hB.new k16 (nw ge_b6)
  clear z7
  replace hb10 := cv (g := hh4) hb10
  refine aT (aS ?_)
  have gs2 := hB.size
  have lt3 := hb2.lt
  have lt6 := hb8.lt
  have lt7 := hb10.lt
  refine bJ 8 [0, 1, 3, 4, 2, 5] [2, 5] [] [(6, 43, [.int .u64 0, .int .u64 0, .int .u64 0, .int .u64 0, .int .u64 0]), (7, 43, [.int .u64 0, .int .u64 0, .int .u64 0, .int .u64 0, .int .u64 0])] mixed [(3, _), (4, _), (2, _), (5, _), (6, _)] ⟨rfl, rfl, rfl, rfl, rfl, trivial⟩ (by decide +kernel) (by decide) (by decide) ?_ (fun x hx => by cases hx) rfl (fun w17 k17 => ?_)
  · simp only [List.forall_mem_cons]; exact ⟨⟨_, _, _, _, _, _, rfl, aj⟩, ⟨_, _, _, _, _, _, rfl, aj⟩, fun q hq => by cases hq⟩
  obtain ⟨hB, hb2, hb6, hb7, hb8, hb10⟩ := dz k17 hB hb2 hb6 hb7 hb8 hb10
  refine af 3 rfl rfl rfl rfl (fun W' kk => aX (cs' := [_, _, _, _, _]) bG aj rfl (Bk.pK hb6 kk) rfl rfl) (af 4 rfl rfl rfl rfl (fun W' kk => aX (cs' := [_, _, _, _, _]) bG aj rfl (Bk.pK hb7 kk) rfl rfl) (af 3 rfl rfl rfl rfl (fun W' kk => aX (cs' := [_, _, _, _, _]) bG aj rfl (Bk.pK hb6 kk) rfl rfl) (af 4 rfl rfl rfl rfl (fun W' kk => aX (cs' := [_, _, _, _, _]) bG aj rfl (Bk.pK hb7 kk) rfl rfl) (bY [(31, _), (32, _)] rfl rfl ⟨rfl, rfl, trivial⟩ rfl (fun w19 k19 => ?_)))))
  obtain ⟨hB, hb2, hb8, hb10⟩ := cy k19 hB hb2 hb8 hb10
  refine (aV (vs := [_, _]) rfl (cz _ _ _ _ E1 E2 _)).mono ?_
  rintro _ w18 ⟨hh5, rfl, E5, k18⟩
  refine ⟨k18, nox, ?_⟩
  obtain ⟨hB, hb2, hb8, hb10⟩ := cy k18 hB hb2 hb8 hb10
  refine bY [(34, _), (35, _)] rfl rfl ⟨rfl, rfl, trivial⟩ rfl (fun w21 k21 => ?_)
  obtain ⟨hB, hb2, hb8, hb10⟩ := cy k21 hB hb2 hb8 hb10
  refine (aV (vs := [_, _]) rfl (dL _ _ _ _ E1 E2 _)).mono ?_
  rintro _ w20 ⟨hh6, rfl, E6, k20⟩
  refine ⟨k20, nox, ?_⟩
  obtain ⟨hB, hb2, hb8, hb10⟩ := cy k20 hB hb2 hb8 hb10
  refine cC (fun w22 k22 => ?_)
  obtain ⟨hB, hb2, hb8, hb10⟩ := cy k22 hB hb2 hb8 hb10
  intro b7 eb7 lb4 hb11 ds4 sp4
  have ge_b7 : w.heap.size ≤ b7 := Nat.le_trans gs2 eb7
  have ne_b2_b7 : b2 ≠ b7 := Nat.ne_of_lt (Nat.lt_of_lt_of_le lt3 eb7)
  have ne_b5_b7 : b5 ≠ b7 := Nat.ne_of_lt (Nat.lt_of_lt_of_le lt6 eb7)
  have ne_b6_b7 : b6 ≠ b7 := Nat.ne_of_lt (Nat.lt_of_lt_of_le lt7 eb7)
  intro b8 eb8 lb5 hb12 ds5 sp5
  have ge_b8 : w.heap.size ≤ b8 := Nat.le_trans gs2 eb8
  have ne_b2_b8 : b2 ≠ b8 := Nat.ne_of_lt (Nat.lt_of_lt_of_le lt3 eb8)
  have ne_b5_b8 : b5 ≠ b8 := Nat.ne_of_lt (Nat.lt_of_lt_of_le lt6 eb8)
  have ne_b6_b8 : b6 ≠ b8 := Nat.ne_of_lt (Nat.lt_of_lt_of_le lt7 eb8)
  have ne4 := ds5 b7 (by simp)
  refine bK (a6 (ak aj rfl rfl rfl ad hb11 rfl) ?_)
  rintro _ w23 ⟨hb13, k23, z8⟩
  replace hb2 := hb2.keep k23 (nm ne_b2_b7)
  replace hb8 := hb8.keep k23 (nm ne_b5_b7)
  replace hb10 := hb10.keep k23 (nm ne_b6_b7)
  replace hb12 := hb12.keep k23 (nm (Ne.symm ne4))
  replace hB := hB.new k23 (nw ge_b7)
  clear z8
  replace hb13 := cv (g := hh5) hb13
  refine a6 (ak aj rfl rfl rfl ad hb12 rfl) ?_
  rintro _ w24 ⟨hb14, k24, z9⟩
  replace hb2 := hb2.keep k24 (nm ne_b2_b8)
  replace hb8 := hb8.keep k24 (nm ne_b5_b8)
  replace hb10 := hb10.keep k24 (nm ne_b6_b8)
  replace hb13 := hb13.keep k24 (nm ne4)
  replace hB := hB.new k24 (nw ge_b8)
  clear z9
  replace hb14 := cv (g := hh6) hb14
  refine aT (aS ?_)
  have gs3 := hB.size
  have lt8 := hb2.lt
  have lt11 := hb13.lt
  have lt12 := hb14.lt
  refine bJ 12 [0, 1, 2, 5, 6, 8, 3, 4, 7, 9] [3, 4, 7, 9] [] [(10, 43, [.int .u64 0, .int .u64 0, .int .u64 0, .int .u64 0, .int .u64 0]), (11, 43, [.int .u64 0, .int .u64 0, .int .u64 0, .int .u64 0, .int .u64 0])] mixed [(7, _), (6, _), (5, _), (8, _), (2, _)] ⟨rfl, rfl, rfl, rfl, rfl, trivial⟩ (by decide +kernel) (by decide) (by decide) ?_ (fun x hx => by cases hx) rfl (fun w25 k25 => ?_)
  · simp only [List.forall_mem_cons]; exact ⟨⟨_, _, _, _, _, _, rfl, aj⟩, ⟨_, _, _, _, _, _, rfl, aj⟩, fun q hq => by cases hq⟩
  obtain ⟨hB, hb2, hb8, hb10, hb13, hb14⟩ := dz k25 hB hb2 hb8 hb10 hb13 hb14
  refine af 7 rfl rfl rfl rfl (fun W' kk => aX (cs' := [_, _, _, _, _]) bG aj rfl (Bk.pK hb13 kk) rfl rfl) (af 6 rfl rfl rfl rfl (fun W' kk => aX (cs' := [_, _, _, _, _]) bG aj rfl (Bk.pK hb10 kk) rfl rfl) (af 6 rfl rfl rfl rfl (fun W' kk => aX (cs' := [_, _, _, _, _]) bG aj rfl (Bk.pK hb10 kk) rfl rfl) (af 5 rfl rfl rfl rfl (fun W' kk => aX (cs' := [_, _, _, _, _]) bG aj rfl (Bk.pK hb8 kk) rfl rfl) (af 5 rfl rfl rfl rfl (fun W' kk => aX (cs' := [_, _, _, _, _]) bG aj rfl (Bk.pK hb8 kk) rfl rfl) (af 8 rfl rfl rfl rfl (fun W' kk => aX (cs' := [_, _, _, _, _]) bG aj rfl (Bk.pK hb14 kk) rfl rfl) (bY [(38, _), (39, _)] rfl rfl ⟨rfl, rfl, trivial⟩ rfl (fun w27 k27 => ?_)))))))
  obtain ⟨hB, hb2, hb13, hb14⟩ := cy k27 hB hb2 hb13 hb14
  refine (aV (vs := [_, _]) rfl (az _ _ _ _ E4 E4 _)).mono ?_
  rintro _ w26 ⟨hh7, rfl, E7, k26⟩
  refine ⟨k26, nox, ?_⟩
  obtain ⟨hB, hb2, hb13, hb14⟩ := cy k26 hB hb2 hb13 hb14
  refine bY [(37, _), (40, _)] rfl rfl ⟨rfl, rfl, trivial⟩ rfl (fun w29 k29 => ?_)
  obtain ⟨hB, hb2, hb13, hb14⟩ := cy k29 hB hb2 hb13 hb14
  refine (aV (vs := [_, _]) rfl (dL _ _ _ _ E5 E7 _)).mono ?_
  rintro _ w28 ⟨hh8, rfl, E8, k28⟩
  refine ⟨k28, nox, ?_⟩
  obtain ⟨hB, hb2, hb13, hb14⟩ := cy k28 hB hb2 hb13 hb14
  refine bY [(42, _), (43, _)] rfl rfl ⟨rfl, rfl, trivial⟩ rfl (fun w31 k31 => ?_)
  obtain ⟨hB, hb2, hb13, hb14⟩ := cy k31 hB hb2 hb13 hb14
  refine (aV (vs := [_, _]) rfl (cz _ _ _ _ E3 E3 _)).mono ?_
  rintro _ w30 ⟨hh9, rfl, E9, k30⟩
  refine ⟨k30, nox, ?_⟩
  obtain ⟨hB, hb2, hb13, hb14⟩ := cy k30 hB hb2 hb13 hb14
  refine bY [(44, _), (45, _)] rfl rfl ⟨rfl, rfl, trivial⟩ rfl (fun w33 k33 => ?_)
  obtain ⟨hB, hb2, hb13, hb14⟩ := cy k33 hB hb2 hb13 hb14
  refine (aV (vs := [_, _]) rfl (cz _ _ _ _ E9 E6 _)).mono ?_
  rintro _ w32 ⟨hh10, rfl, E10, k32⟩
  refine ⟨k32, nox, ?_⟩
  obtain ⟨hB, hb2, hb13, hb14⟩ := cy k32 hB hb2 hb13 hb14
  refine cC (fun w34 k34 => ?_)
  obtain ⟨hB, hb2, hb13, hb14⟩ := cy k34 hB hb2 hb13 hb14
  intro b9 eb9 lb6 hb15 ds6 sp6
  have ge_b9 : w.heap.size ≤ b9 := Nat.le_trans gs3 eb9
  have ne_b2_b9 : b2 ≠ b9 := Nat.ne_of_lt (Nat.lt_of_lt_of_le lt8 eb9)
  have ne_b7_b9 : b7 ≠ b9 := Nat.ne_of_lt (Nat.lt_of_lt_of_le lt11 eb9)
  have ne_b8_b9 : b8 ≠ b9 := Nat.ne_of_lt (Nat.lt_of_lt_of_le lt12 eb9)
  intro b10 eb10 lb7 hb16 ds7 sp7
  have ge_b10 : w.heap.size ≤ b10 := Nat.le_trans gs3 eb10
  have ne_b2_b10 : b2 ≠ b10 := Nat.ne_of_lt (Nat.lt_of_lt_of_le lt8 eb10)
  have ne_b7_b10 : b7 ≠ b10 := Nat.ne_of_lt (Nat.lt_of_lt_of_le lt11 eb10)
  have ne_b8_b10 : b8 ≠ b10 := Nat.ne_of_lt (Nat.lt_of_lt_of_le lt12 eb10)
  have ne5 := ds7 b9 (by simp)
  refine bK (a6 (ak aj rfl rfl rfl ad hb15 rfl) ?_)
  rintro _ w35 ⟨hb17, k35, z10⟩
  replace hb2 := hb2.keep k35 (nm ne_b2_b9)
  replace hb13 := hb13.keep k35 (nm ne_b7_b9)
  replace hb14 := hb14.keep k35 (nm ne_b8_b9)
  replace hb16 := hb16.keep k35 (nm (Ne.symm ne5))
  replace hB := hB.new k35 (nw ge_b9)
  clear z10
  replace hb17 := cv (g := hh8) hb17
  refine a6 (ak aj rfl rfl rfl ad hb16 rfl) ?_
  rintro _ w36 ⟨hb18, k36, z11⟩
  replace hb2 := hb2.keep k36 (nm ne_b2_b10)
  replace hb13 := hb13.keep k36 (nm ne_b7_b10)
  replace hb14 := hb14.keep k36 (nm ne_b8_b10)
  replace hb17 := hb17.keep k36 (nm ne5)
  replace hB := hB.new k36 (nw ge_b10)
  clear z11
  replace hb18 := cv (g := hh10) hb18
  refine aT (aW [(7, _), (8, _), (2, _), (9, _), (10, _)] ⟨rfl, rfl, rfl, rfl, rfl, trivial⟩ (aS (bz 13 [0, 1, 3, 4, 6, 7, 9, 10, 2, 5, 8, 11, 12] [2, 5, 8, 11] [] mixed [(9, _), (10, _), (8, _), (7, _), (2, _)] ⟨rfl, rfl, rfl, rfl, rfl, trivial⟩ (by decide +kernel) rfl (fun w37 k37 => ?_))))
  obtain ⟨hB, hb2, hb13, hb14, hb17, hb18⟩ := dz k37 hB hb2 hb13 hb14 hb17 hb18
  refine ao 9 rfl rfl rfl rfl (fun W' kk => aX (cs' := [_, _, _, _, _]) bG aj rfl (Bk.pK hb17 kk) rfl rfl) (ao 10 rfl rfl rfl rfl (fun W' kk => aX (cs' := [_, _, _, _, _]) bG aj rfl (Bk.pK hb18 kk) rfl rfl) (ao 8 rfl rfl rfl rfl (fun W' kk => aX (cs' := [_, _, _, _, _]) bG aj rfl (Bk.pK hb14 kk) rfl rfl) (ao 7 rfl rfl rfl rfl (fun W' kk => aX (cs' := [_, _, _, _, _]) bG aj rfl (Bk.pK hb13 kk) rfl rfl) (ao 10 rfl rfl rfl rfl (fun W' kk => aX (cs' := [_, _, _, _, _]) bG aj rfl (Bk.pK hb18 kk) rfl rfl) (ao 8 rfl rfl rfl rfl (fun W' kk => aX (cs' := [_, _, _, _, _]) bG aj rfl (Bk.pK hb14 kk) rfl rfl) (ao 9 rfl rfl rfl rfl (fun W' kk => aX (cs' := [_, _, _, _, _]) bG aj rfl (Bk.pK hb17 kk) rfl rfl) (ao 7 rfl rfl rfl rfl (fun W' kk => aX (cs' := [_, _, _, _, _]) bG aj rfl (Bk.pK hb13 kk) rfl rfl) (bx [(47, _), (48, _)] rfl rfl ⟨rfl, rfl, trivial⟩ rfl (aV (vs := [_, _]) rfl (az _ _ _ _ E8 E10 _)) ?_))))))))
  rintro _ w38 ⟨hh11, rfl, E11, k38⟩
  refine ⟨k38, ?_⟩
  obtain ⟨hB, hb2⟩ := bT k38 hB hb2
  refine bx [(50, _), (51, _)] rfl rfl ⟨rfl, rfl, trivial⟩ rfl (aV (vs := [_, _]) rfl (az _ _ _ _ E6 E5 _)) ?_
  rintro _ w39 ⟨hh12, rfl, E12, k39⟩
  refine ⟨k39, ?_⟩
  obtain ⟨hB, hb2⟩ := bT k39 hB hb2
  refine bx [(53, _), (54, _)] rfl rfl ⟨rfl, rfl, trivial⟩ rfl (aV (vs := [_, _]) rfl (az _ _ _ _ E10 E6 _)) ?_
  rintro _ w40 ⟨hh13, rfl, E13, k40⟩
  refine ⟨k40, ?_⟩
  obtain ⟨hB, hb2⟩ := bT k40 hB hb2
  refine bx [(56, _), (57, _)] rfl rfl ⟨rfl, rfl, trivial⟩ rfl (aV (vs := [_, _]) rfl (az _ _ _ _ E8 E5 _)) ?_
  rintro _ w41 ⟨hh14, rfl, E14, k41⟩
  refine ⟨k41, ?_⟩
  obtain ⟨hB, hb2⟩ := bT k41 hB hb2
  refine mb [(49, _), (52, _), (55, _), (58, _)] rfl rfl ⟨rfl, rfl, rfl, rfl, trivial⟩ rfl (fun W' kk => cd (idx := [0, 1, 2, 3]) (xs := [.tmp 49, .tmp 52, .tmp 55, .tmp 58]) (vs := [_, _, _, _]) (css := [[_, _, _, _, _], [_, _, _, _, _], [_, _, _, _, _], [_, _, _, _, _]]) (out := [_, _, _, _, _, _, _, _, _, _, _, _, _, _, _, _, _, _, _, _]) jw bA rfl rfl ⟨rfl, rfl, rfl, rfl, trivial⟩ rfl rfl) (cS (a6 (ak bA rfl rfl rfl (by simp only [List.forall_mem_cons]; refine ⟨rfl, rfl, rfl, rfl, rfl, rfl, rfl, rfl, rfl, rfl, rfl, rfl, rfl, rfl, rfl, rfl, rfl, rfl, rfl, rfl, fun v hv => by cases hv⟩) hb2 rfl) ?_))
  rintro _ w42 ⟨hb19, k42, z12⟩
  replace hB := hB.new k42 (nw ge_b2)
  clear z12
  replace hb19 : Bk w42 b2 _ [.int .u64 (hh11 0), .int .u64 (hh11 1), .int .u64 (hh11 2), .int .u64 (hh11 3), .int .u64 (hh11 4), .int .u64 (hh12 0), .int .u64 (hh12 1), .int .u64 (hh12 2), .int .u64 (hh12 3), .int .u64 (hh12 4), .int .u64 (hh13 0), .int .u64 (hh13 1), .int .u64 (hh13 2), .int .u64 (hh13 3), .int .u64 (hh13 4), .int .u64 (hh14 0), .int .u64 (hh14 1), .int .u64 (hh14 2), .int .u64 (hh14 3), .int .u64 (hh14 4)] := hb19
  refine aT (aW [(2, _)] ⟨rfl, trivial⟩ (bP hfin Tryd.results48 rfl (ae cq bA hb19 rfl)  ?_))
  exact ⟨(vecN [(hh11 0), (hh11 1), (hh11 2), (hh11 3), (hh11 4), (hh12 0), (hh12 1), (hh12 2), (hh12 3), (hh12 4), (hh13 0), (hh13 1), (hh13 2), (hh13 3), (hh13 4), (hh14 0), (hh14 1), (hh14 2), (hh14 3), (hh14 4)]), rfl, ⟨E11, E12, E13, E14⟩, hB⟩
end Go.Proofs.YtllmbkmghmmhfaaDoor.W
namespace Go.Proofs.YtllmbkmghmmhfaaDoor.W
open Go Go.Eng Go.Byt Go.Fld Go.Ed
def PtR (p : Nat → Int) (a : Pt) : Prop := ∃ Z, Z ≠ 0 ∧ PtEl p (a.1 * Z) (a.2 * Z) Z (a.1 * a.2 * Z)
theorem nt : fp 1 = 1 := by decide
theorem kt : (1 : Fp) ≠ 0 := by decide
theorem jF {p : Nat → Int} {X Y Z T : Fp} {a : Pt} (h : PtEl p X Y Z T) (hz : Z ≠ 0) (hx : X = a.1 * Z) (hy : Y = a.2 * Z) (ht : T = a.1 * a.2 * Z) : PtR p a := ⟨Z, hz, by subst hx hy ht; exact h⟩
theorem gp {p : Nat → Int} {x y : Fp} (h : PtEl p x y (fp 1) (x * y)) : PtR p (x, y) := by
 rw [nt] at h
 refine jF h kt ?_ ?_ ?_ <;> (show _ = _ * (1 : Fp); grind -lia -linarith)
theorem ng {p : Nat → Int} (h : PtEl p 0 (fp 1) (fp 1) (0 * fp 1)) : PtR p zero := by
 rw [nt] at h
 exact jF h kt (by decide) (by decide) (by decide)
theorem nh {X Y Z T x y u v E F G H m N M : Fp} (hu : u * inv u = 1) (hv : v * inv v = 1) (hE : E = m * N) (hG : G = m * u) (hF : F = m * v) (hH : H = m * M) (hx : x = N * inv u) (hy : y = M * inv v) (hX : X = E * F) (hY : Y = G * H) (hZ : Z = F * G) (hT : T = E * H) :
   X = x * Z ∧ Y = y * Z ∧ T = x * y * Z := by
 generalize inv u = iu at *
 generalize inv v = iv at *
 subst hE hG hF hH hx hy hX hY hZ hT
 refine ⟨?_, ?_, ?_⟩ <;> grind -lia -linarith
theorem o0 {a b : Pt} (ha : OnP a) (hb : OnP b) : 1 + d * a.1 * b.1 * a.2 * b.2 ≠ 0 := mr ha hb
theorem oZ {a b : Pt} (ha : OnP a) (hb : OnP b) : 1 - d * a.1 * b.1 * a.2 * b.2 ≠ 0 := lC ha hb
theorem jt {r : Nat → Int} {a b : Pt} {Z1 Z2 : Fp} (ha : OnP a) (hb : OnP b) (h1 : Z1 ≠ 0) (h2 : Z2 ≠ 0)
   (h : PtEl r (((a.1 * Z1 + a.2 * Z1) * (b.1 * Z2 + b.2 * Z2) - a.1 * Z1 * (b.1 * Z2) - a.2 * Z1 * (b.2 * Z2)) * (Z1 * Z2 - a.1 * a.2 * Z1 * (b.1 * b.2 * Z2) * d)) ((Z1 * Z2 + a.1 * a.2 * Z1 * (b.1 * b.2 * Z2) * d) * (a.2 * Z1 * (b.2 * Z2) + a.1 * Z1 * (b.1 * Z2)))
     ((Z1 * Z2 - a.1 * a.2 * Z1 * (b.1 * b.2 * Z2) * d) * (Z1 * Z2 + a.1 * a.2 * Z1 * (b.1 * b.2 * Z2) * d)) (((a.1 * Z1 + a.2 * Z1) * (b.1 * Z2 + b.2 * Z2) - a.1 * Z1 * (b.1 * Z2) - a.2 * Z1 * (b.2 * Z2)) * (a.2 * Z1 * (b.2 * Z2) + a.1 * Z1 * (b.1 * Z2)))) : PtR r (padd a b) := by
 have f1 := o0 ha hb
 have f2 := oZ ha hb
 obtain ⟨x1, y1⟩ := a
 obtain ⟨x2, y2⟩ := b
 simp only at h f1 f2
 have hF : Z1 * Z2 - x1 * y1 * Z1 * (x2 * y2 * Z2) * d = (Z1 * Z2) * (1 - d * x1 * x2 * y1 * y2) := by clear f1 f2; generalize d = e; grind -lia -linarith
 have hG : Z1 * Z2 + x1 * y1 * Z1 * (x2 * y2 * Z2) * d = (Z1 * Z2) * (1 + d * x1 * x2 * y1 * y2) := by clear f1 f2; generalize d = e; grind -lia -linarith
 have hE : (x1 * Z1 + y1 * Z1) * (x2 * Z2 + y2 * Z2) - x1 * Z1 * (x2 * Z2) - y1 * Z1 * (y2 * Z2) = (Z1 * Z2) * (x1 * y2 + y1 * x2) := by clear f1 f2; grind -lia -linarith
 have hH : y1 * Z1 * (y2 * Z2) + x1 * Z1 * (x2 * Z2) = (Z1 * Z2) * (y1 * y2 + x1 * x2) := by clear f1 f2; grind -lia -linarith
 obtain ⟨c1, c2, c3⟩ := nh (cE f1) (cE f2) hE hG hF hH rfl rfl rfl rfl rfl rfl
 refine jF h ?_ c1 c2 c3
 rw [hF, hG]
 exact ca (ca (ca h1 h2) f2) (ca (ca h1 h2) f1)
theorem ko {r : Nat → Int} {a : Pt} {Z : Fp} (ha : OnP a) (hz : Z ≠ 0)
   (h : PtEl r ((a.1 * Z * (a.1 * Z) + a.2 * Z * (a.2 * Z) - (a.1 * Z + a.2 * Z) * (a.1 * Z + a.2 * Z)) * (Z * Z + Z * Z + (a.1 * Z * (a.1 * Z) - a.2 * Z * (a.2 * Z)))) ((a.1 * Z * (a.1 * Z) - a.2 * Z * (a.2 * Z)) * (a.1 * Z * (a.1 * Z) + a.2 * Z * (a.2 * Z)))
     ((Z * Z + Z * Z + (a.1 * Z * (a.1 * Z) - a.2 * Z * (a.2 * Z))) * (a.1 * Z * (a.1 * Z) - a.2 * Z * (a.2 * Z))) ((a.1 * Z * (a.1 * Z) + a.2 * Z * (a.2 * Z) - (a.1 * Z + a.2 * Z) * (a.1 * Z + a.2 * Z)) * (a.1 * Z * (a.1 * Z) + a.2 * Z * (a.2 * Z)))) : PtR r (padd a a) := by
 have f1 := o0 ha ha
 have f2 := oZ ha ha
 obtain ⟨x, y⟩ := a
 simp only at h f1 f2
 have hon : y * y - x * x = 1 + d * x * x * y * y := ha
 have hG : x * Z * (x * Z) - y * Z * (y * Z) = (-(Z * Z)) * (1 + d * x * x * y * y) := by clear f1 f2 ha; rw [← hon]; grind -lia -linarith
 have hF : Z * Z + Z * Z + (x * Z * (x * Z) - y * Z * (y * Z)) = (Z * Z) * (1 - d * x * x * y * y) := by
   rw [hG]; clear f1 f2 ha hon hG; generalize d = e; grind -lia -linarith
 have hE : x * Z * (x * Z) + y * Z * (y * Z) - (x * Z + y * Z) * (x * Z + y * Z) = (-(Z * Z)) * (x * y + y * x) := by clear f1 f2 ha hon hG hF; grind -lia -linarith
 have hH : x * Z * (x * Z) + y * Z * (y * Z) = (Z * Z) * (y * y + x * x) := by clear f1 f2 ha hon hG hF hE; grind -lia -linarith
 have key : ∀ {X Y Z' T x3 y3 u v E F G H m N M : Fp}, u * inv u = 1 → v * inv v = 1 → E = (-m) * N → G = (-m) * u → F = m * v → H = m * M → x3 = N * inv u → y3 = M * inv v → X = E * F → Y = G * H → Z' = F * G → T = E * H → X = x3 * Z' ∧ Y = y3 * Z' ∧ T = x3 * y3 * Z' := by
   intro X Y Z' T x3 y3 u v E F G H m N M hu hv hE hG hF hH hx hy hX hY hZ hT
   generalize inv u = iu at *
   generalize inv v = iv at *
   clear f1 f2 ha hon
   subst hE hG hF hH hx hy hX hY hZ hT
   refine ⟨?_, ?_, ?_⟩ <;> grind -lia -linarith
 obtain ⟨c1, c2, c3⟩ := key (cE f1) (cE f2) hE hG hF hH rfl rfl rfl rfl rfl rfl
 refine jF h ?_ c1 c2 c3
 rw [hF, hG]
 have hn : -(Z * Z) ≠ 0 := fun e => ca hz hz (by have : Z * Z = -(-(Z * Z)) := by grind -lia -linarith
                                                 rw [this, e]; decide)
 exact ca (ca (ca hz hz) f2) (ca hn f1)
theorem mO {p q : Nat → Int} {X Y Z T : Fp} (h : PtEl p X Y Z T) (e : ∀ c, c < 20 → p c = q c) : PtEl q X Y Z T := by
 obtain ⟨h1, h2, h3, h4⟩ := h
 refine ⟨?_, ?_, ?_, ?_⟩
 · unfold El dC at *
   rw [← e 0 (by decide), ← e 1 (by decide), ← e 2 (by decide), ← e 3 (by decide), ← e 4 (by decide)]; exact h1
 · rw [← e 5 (by decide), ← e 6 (by decide), ← e 7 (by decide), ← e 8 (by decide), ← e 9 (by decide)]; exact h2
 · rw [← e 10 (by decide), ← e 11 (by decide), ← e 12 (by decide), ← e 13 (by decide), ← e 14 (by decide)]; exact h3
 · rw [← e 15 (by decide), ← e 16 (by decide), ← e 17 (by decide), ← e 18 (by decide), ← e 19 (by decide)]; exact h4
theorem fx {p q : Nat → Int} {a : Pt} (h : PtR p a) (e : ∀ c, c < 20 → p c = q c) : PtR q a := by
 obtain ⟨Z, hz, h⟩ := h
 exact ⟨Z, hz, mO h e⟩
theorem mG {W r : Nat → Int} {a : Pt} (h : PtR r zero) : ∀ j, j < 1 → PtR (atN (updR W (0 + 0) 20 r) (0 + j * 20)) (pmul j a) := by
 intro j hj
 obtain rfl : j = 0 := by omega
 exact fx h (fun c hc => (fB (by omega)).symm)
theorem nG {W r : Nat → Int} {a : Pt} {i : Int} (h0 : 1 ≤ i) (h : ∀ j, j < i.toNat → PtR (atN W (0 + j * 20)) (pmul j a)) (hr : PtR r (padd (pmul (i - 1).toNat a) a)) :
   ∀ j, j < (i + 1).toNat → PtR (atN (updR W (0 + i.toNat * 20) 20 r) (0 + j * 20)) (pmul j a) := by
 intro j hj
 by_cases hji : j < i.toNat
 · exact fx (h j hji) (fun c hc => (iR (by omega)).symm)
 · have e : j = i.toNat := by omega
   subst e
   have e2 : pmul i.toNat a = padd (pmul (i - 1).toNat a) a := by
     rw [show i.toNat = (i - 1).toNat + 1 by omega]; rfl
   rw [e2]
   exact fx hr (fun c hc => (fB (by omega)).symm)
def nib (xs : List UInt8) (i : Int) : Int := leI xs / 16 ^ i.toNat % 16
theorem nib_in (xs : List UInt8) (i : Int) : In (nib xs i) 0 15 := by unfold nib In; omega
theorem lh : ∀ (xs : List UInt8) (j : Nat), j < xs.length → leI xs / 256 ^ j % 256 = gb xs (j : Int)
 | [], j, h => by simp at h
 | x :: r, 0, _ => by
   have hx := x.toNat_lt
   simp [leI, gb]; omega
 | x :: r, j + 1, h => by
   have ih := lh r j (by simpa using h)
   have hx := x.toNat_lt
   have e : leI (x :: r) / 256 ^ (j + 1) = leI r / 256 ^ j := by
     rw [Int.pow_succ, Int.mul_comm, ← Int.ediv_ediv_of_nonneg (by omega)]
     congr 1
     simp only [leI]; omega
   rw [e, ih]
   unfold gb; congr 2
theorem shr_0 (x : Int) : x / 2 ^ (0 : Nat) = x := by simp
theorem nib_eq {xs : List UInt8} {i : Int} (hx : xs.length = 32) (h0 : 0 ≤ i) (h1 : i ≤ 63) : bits .and .u8 (gb xs (i / 2) / 2 ^ (4 * (i % 2) : Int).toNat) 15 = nib xs i := by
 have hg := lh xs (i / 2).toNat (by omega)
 rw [show ((i / 2).toNat : Int) = i / 2 by omega] at hg
 have gr := cc xs (i / 2)
 have hn : 0 ≤ leI xs := (d8 xs).1
 by_cases ho : i % 2 = 0
 · rw [ho, show (4 * (0 : Int)).toNat = 0 from rfl, shr_0, bd (k := .u8) (a := 0) (b := 255) 4 (c := 15) (m := 16) gr rfl rfl rfl rfl rfl rfl]
   unfold nib
   rw [show i.toNat = (i / 2).toNat + (i / 2).toNat by omega, Int.pow_add, ← Int.mul_pow, show (16 : Int) * 16 = 256 from rfl]
   omega
 · have ho : i % 2 = 1 := by omega
   rw [ho, show (4 * (1 : Int)).toNat = 4 from rfl, bd (k := .u8) (a := 0) (b := 15) 4 (c := 15) (m := 16) (by unfold In; omega) rfl rfl rfl rfl rfl rfl]
   unfold nib
   have e : (16 : Int) ^ i.toNat = 256 ^ (i / 2).toNat * 16 := by
     rw [show i.toNat = (i / 2).toNat + (i / 2).toNat + 1 by omega, Int.pow_succ, Int.pow_add, ← Int.mul_pow, show (16 : Int) * 16 = 256 from rfl]
   rw [e, ← Int.ediv_ediv_of_nonneg (Int.pow_nonneg (by decide)), show (2 : Int) ^ 4 = 16 from rfl]
   omega
def topN (xs : List UInt8) (i : Int) : Nat := (leI xs / 16 ^ i.toNat).toNat
theorem nQ {xs : List UInt8} (hx : xs.length = 32) : topN xs 64 = 0 := by
 have h := d8 xs
 rw [hx] at h
 unfold topN
 rw [show (16 : Int) ^ (64 : Int).toNat = 256 ^ 32 by decide +kernel, Int.ediv_eq_zero_of_lt h.1 h.2]; rfl
theorem mI (xs : List UInt8) : topN xs 0 = (leI xs).toNat := by unfold topN; simp
theorem mJ {xs : List UInt8} {i : Int} (h0 : 0 ≤ i) : topN xs i = topN xs (i + 1) * 16 + (nib xs i).toNat := by
 have hn : 0 ≤ leI xs := (d8 xs).1
 have hp : 0 ≤ leI xs / 16 ^ i.toNat := Int.ediv_nonneg hn (Int.pow_nonneg (by decide))
 unfold topN nib
 rw [show (i + 1).toNat = i.toNat + 1 by omega, Int.pow_succ, ← Int.ediv_ediv_of_nonneg (Int.pow_nonneg (by decide))]
 generalize leI xs / 16 ^ i.toNat = q at *
 omega
theorem ee {a : Pt} (h : OnP a) (m : Nat) : padd (pmul m a) (pmul m a) = pmul (m * 2) a := by rw [Nat.mul_two, dE h]
theorem nl {a : Pt} (h : OnP a) {xs : List UInt8} {i : Int} (h0 : 0 ≤ i) : padd (pmul (topN xs (i + 1) * 16) a) (pmul (nib xs i).toNat a) = pmul (topN xs i) a := by rw [← dE h, ← mJ h0]
end Go.Proofs.YtllmbkmghmmhfaaDoor.W
