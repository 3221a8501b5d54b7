/- Contracts and laws, part 5 of 6: what each function of the program and of the reference computes, shown once. -/
import Derived.Test.YtllmbkmghmmhfaaGreatDoorXvd
set_option maxRecDepth 100000
set_option maxHeartbeats 4000000
set_option linter.unusedVariables false
set_option linter.unusedSimpArgs false
namespace Go.Proofs.YtllmbkmghmmhfaaGreatDoor.W
open Go Go.Eng Go.Byt
open Go.Sha
theorem nC (l0 l1 u0 u1 : Value) (sv kv v : Value) (bs : List UInt8) (s : S8 64) (w : World) (hl0 : Rd w 1 l0 3 [.int .i64 1, .int .i64 8, .int .i64 7]) (hl1 : Rd w 1 l1 3 [.int .i64 19, .int .i64 61, .int .i64 6]) (hu0 : Rd w 1 u0 3 [.int .i64 28, .int .i64 34, .int .i64 39]) (hu1 : Rd w 1 u1 3 [.int .i64 14, .int .i64 18, .int .i64 41]) (hs : RdW w sv (eT s)) (hk : RdW w kv (KB Kl)) (hv : RdB w v bs) (hl : bs.length = 128) : Rets Tryz.prog 106 [.agg [.int .i64 64, .int .i64 128, .int .i64 80, l0, l1, u0, u1].toArray, sv, kv, v] w (fun r w' => OwnW w' w.heap.size r (eT (blk cT Kl bs s)) ∧ Keep [] w w') := by
 have hB : Keep [] w w := Keep.refl _ _
 have hkl : (KB Kl).length = 80 := rfl
 refine ac Tryz.func106 rfl (by decide) Tryz.ntmps106 rfl (fun fin _ hfin => a5 (aZ (ad (bc (cs := [.int .i64 64, .int .i64 128, .int .i64 80, l0, l1, u0, u1]) rfl rfl) rfl ?_)))
 rintro _ w1 ⟨b1, rfl, eb1, hb1, k1, z1⟩
 replace hB := hB.trans k1
 clear eb1 z1
 refine oga rfl rfl (a6 (a5 (aZ (a7 (aa (cs' := [_, _, _, _, _, _, _]) dU cz rfl hb1 rfl rfl) rfl (ogm rfl rfl (ad (a8 (vs := [_, _]) rfl (mo _ _ _ _ _ bs _ (hl0.s8 hB) (hl1.s8 hB) (hu0.s8 hB) (hu1.s8 hB) (hv.s8 hB) hl)) rfl ?_))))))
 rintro v1 w2 ⟨o1, k2⟩
 have gl_o1 := hB.size
 obtain ⟨hB, hb1⟩ := bN k2 hB hb1
 have u_o1 := o1.blk
 refine oga rfl rfl (a6 (a5 (aZ (ad (dv (m := 0) (xs := []) (vs := []) aC ag (by decide) rfl rfl rfl (by first | (simp; done) | (intro v hv; rw [List.mem_singleton] at hv; subst hv; rfl)) (by decide)) rfl ?_))))
 rintro v2 w3 ⟨o2, nn1, lb1, k3, z2⟩
 have gl_o2 := hB.size
 have sb_b1_o2 := fun x hx => (show x ≠ b1 from by have h1 := (o2.blk x hx).1; have h2 := hb1.lt; omega)
 replace hb1 := hb1.s8 k3
 replace o1 := o1.s8 k3
 replace hB := hB.trans k3
 refine ogm rfl rfl ?_
 have oo_o1 := fun x hx hm => (show False from by have h1 := (u_o1 x hx).2; have h2 := (o2.blk x hm).1; omega)
 replace o2 := o2.lo gl_o2
 have lt_b1_o3 := hb1.lt
 refine ad (lK (xs := []) (ys := eT s) aC ag rfl rfl (show Own _ _ _ 1 _ 0 (wc []) from o2) rfl (show RdW _ sv (eT s) from hs.s8 hB) ⟨(show (0 + 8) * 8 ≤ 140737488355328 by omega), (show 0 + 8 ≤ 9223372036854775807 by omega)⟩ (by have := hB.size; omega)) rfl ?_
 rintro v3 w4 ⟨o3, k4, lb2⟩
 replace hB := hB.new k4 (fun x hx => .inl (o2.blk x hx).1)
 replace o1 := o1.keep k4 (fun x hx hm => oo_o1 x hx hm)
 replace hb1 := hb1.keep k4 (fun hm => sb_b1_o2 _ hm rfl)
 have sb_b1_o3 := fun x hx => (lb2 x hx).elim (sb_b1_o2 x) (fun h => (show x ≠ b1 from by omega))
 have gg_o3 := hB.size
 refine oga rfl rfl (a6 (a5 (a5 (aZ (oga rfl rfl (a6 (ab ?_)))))))
 have gw_o1 := o1.lo gl_o1
 refine bK (Γ := Nat × S8 64 × Value) (fun ⟨i, X, o⟩ => [(1, sv), (2, kv), (4, .pointer (some ⟨b1, 0, none⟩)), (9, v1), (10, o), (11, .int .i64 (i : Int))]) (fun ⟨i, X, o⟩ W => i ≤ 80 ∧ X = rnds cT Kl (sch cT bs 64) s i ∧ OwnW W w.heap.size o (eT X) ∧ OwnW W w.heap.size v1 (sch cT bs 64) ∧ (∀ x, x ∈ vblk o → x ≠ b1) ∧ Bk W b1 116 [.int .i64 64, .int .i64 128, .int .i64 80, l0, l1, u0, u1] ∧ Keep [] w W) (fun ⟨i, X, o⟩ => 80 - i) ⟨0, s, v3⟩ ⟨rfl, rfl, rfl, rfl, rfl, rfl, trivial⟩ (⟨by omega, rfl, o3.lo (by omega), gw_o1, sb_b1_o3, hb1, hB⟩) ?_
 rintro ⟨i, X, o⟩ w5 ⟨hi0, hX, ow, oww, hno, hbz, hB⟩
 refine a9 [(1, sv), (2, kv), (4, .pointer (some ⟨b1, 0, none⟩)), (9, v1), (10, o), (11, .int .i64 (i : Int))] ⟨rfl, rfl, rfl, rfl, rfl, rfl, trivial⟩ ?_
 have hsl : (sch cT bs 64).length = 80 := by rw [e7]
 refine a5 (a5 (aZ (ogm rfl rfl (a7 (ax 2 aO rfl cU (by decide) rfl rfl) rfl (a7 (ah dc rfl hbz rfl) rfl (a7 (bd rfl rfl) rfl (a6 (bT rfl (fun hc1 => ?_) (fun hc1 => ?_)))))))))
 ·
  refine af (a5 (ab (a5 (eL mixed (by decide +kernel) (fun w6 k5 => ?_)))))
  replace ow := ow.s8 k5
  replace oww := oww.s8 k5
  obtain ⟨hB, hbz⟩ := bN k5 hB hbz
  refine ao (bY rfl) rfl (ao (bY rfl) rfl (ao (bk aC ag rfl (hk.s8 hB) rfl (by omega)) rfl (ao (cq (l := (KB Kl)) i au rfl (hk.s8 hB) rfl (by omega)) rfl (ao (ax 0 aO rfl cU (by decide) rfl rfl) rfl (ao (ah dc rfl hbz rfl) rfl (ao (bC (j := 0) (cY rfl rfl) (by decide)) rfl (ao (bC (j := 0) (eb (by rw [aJ]; rfl) aS rfl) (by decide)) rfl (ao (eJ 0 rfl rfl rfl (by decide)) rfl (ao (fe rfl) rfl (cV (a6 (a9 [(1, _), (2, _), (4, _), (9, _), (10, _), (11, _), (12, _)] ⟨rfl, rfl, rfl, rfl, rfl, rfl, rfl, trivial⟩ ?_))))))))))))
  refine a5 (bf 37 [0, 1, 2, 3, 4, 5, 6, 7, 8, 9, 12, 13, 14, 15, 16, 17, 18, 19, 20, 21, 22, 23, 24, 25, 26, 27, 29, 31, 32, 33, 34, 10, 11, 28, 30, 35, 36] [10, 36] [] mixed [(4, _), (10, _), (12, _), (9, _), (11, _), (1, _), (2, _)] ⟨rfl, rfl, rfl, rfl, rfl, rfl, rfl, trivial⟩ (by decide +kernel) rfl (fun w7 k6 => ?_))
  replace ow := ow.s8 k6
  replace oww := oww.s8 k6
  obtain ⟨hB, hbz⟩ := bN k6 hB hbz
  refine am 4 rfl rfl rfl rfl (fun W' kk => aa (cs' := [_, _, _, _, _, _, _]) dU cz rfl (Bk.s8 hbz kk) rfl rfl) (bL 10 rfl rfl rfl rfl rfl (am 38 rfl rfl rfl rfl (fun W' kk => bk aC ag rfl (Rd.s8 ow.rd kk) rfl (by constructor <;> first | omega | (show (_ : Int) < 8; omega))) (am 39 rfl rfl rfl rfl (fun W' kk => cq (l := (eT X)) 7 au rfl (Rd.s8 ow.rd kk) rfl (bP rfl)) (am 4 rfl rfl rfl rfl (fun W' kk => aa (cs' := [_, _, _, _, _, _, _]) dU cz rfl (Bk.s8 hbz kk) rfl rfl) (bL 10 rfl rfl rfl rfl rfl (am 42 rfl rfl rfl rfl (fun W' kk => bk aC ag rfl (Rd.s8 ow.rd kk) rfl (by constructor <;> first | omega | (show (_ : Int) < 8; omega))) (am 43 rfl rfl rfl rfl (fun W' kk => cq (l := (eT X)) 4 au rfl (Rd.s8 ow.rd kk) rfl (bP rfl)) (am 4 rfl rfl rfl rfl (fun W' kk => ax 6 aO rfl ty87 (by decide) rfl rfl) ?_))))))))
  refine am 45 rfl rfl rfl rfl (fun W' kk => ah sc87 rfl (Bk.s8 hbz kk) rfl) (bL 10 rfl rfl rfl rfl rfl (am 49 rfl rfl rfl rfl (fun W' kk => bk aC ag rfl (Rd.s8 ow.rd kk) rfl (by constructor <;> first | omega | (show (_ : Int) < 8; omega))) (am 50 rfl rfl rfl rfl (fun W' kk => cq (l := (eT X)) 4 au rfl (Rd.s8 ow.rd kk) rfl (bP rfl)) (bL 10 rfl rfl rfl rfl rfl (am 52 rfl rfl rfl rfl (fun W' kk => bk aC ag rfl (Rd.s8 ow.rd kk) rfl (by constructor <;> first | omega | (show (_ : Int) < 8; omega))) (am 53 rfl rfl rfl rfl (fun W' kk => cq (l := (eT X)) 5 au rfl (Rd.s8 ow.rd kk) rfl (bP rfl)) (cF 51 54 rfl rfl rfl rfl rfl (fun W' kk => fG rfl rfl) (bL 10 rfl rfl rfl rfl rfl ?_))))))))
  refine am 56 rfl rfl rfl rfl (fun W' kk => bk aC ag rfl (Rd.s8 ow.rd kk) rfl (by constructor <;> first | omega | (show (_ : Int) < 8; omega))) (am 57 rfl rfl rfl rfl (fun W' kk => cq (l := (eT X)) 4 au rfl (Rd.s8 ow.rd kk) rfl (bP rfl)) (am 58 rfl rfl rfl rfl (fun W' kk => rg rfl) (bL 10 rfl rfl rfl rfl rfl (am 60 rfl rfl rfl rfl (fun W' kk => bk aC ag rfl (Rd.s8 ow.rd kk) rfl (by constructor <;> first | omega | (show (_ : Int) < 8; omega))) (am 61 rfl rfl rfl rfl (fun W' kk => cq (l := (eT X)) 6 au rfl (Rd.s8 ow.rd kk) rfl (bP rfl)) (cF 59 62 rfl rfl rfl rfl rfl (fun W' kk => fG rfl rfl) (cF 55 63 rfl rfl rfl rfl rfl (fun W' kk => eV rfl rfl) (bL 12 rfl rfl rfl rfl rfl ?_))))))))
  refine bL 9 rfl rfl rfl rfl rfl (bL 11 rfl rfl rfl rfl rfl (cF 68 69 rfl rfl rfl rfl rfl (fun W' kk => bk aC ag rfl (Rd.s8 oww.rd kk) rfl (by omega)) (am 70 rfl rfl rfl rfl (fun W' kk => cq (l := (sch cT bs 64)) i au rfl (Rd.s8 oww.rd kk) rfl (by omega)) (bq [(41, _), (44, _), (46, _)] rfl rfl ⟨rfl, rfl, rfl, trivial⟩ rfl (a8 (vs := [_, _, _]) rfl (jy _ _ _ _ _ _ X.e _ 14 18 41 (by decide) (by decide) (by decide) _ (hu1.s8 hB))) ?_))))
  rintro _ w8 ⟨rfl, k7⟩
  refine ⟨k7, ?_⟩
  replace ow := ow.s8 k7
  replace oww := oww.s8 k7
  obtain ⟨hB, hbz⟩ := bN k7 hB hbz
  refine cF 40 47 rfl rfl rfl rfl rfl (fun W' kk => cQ rfl rfl) (cF 48 64 rfl rfl rfl rfl rfl (fun W' kk => cQ rfl rfl) (cF 65 66 rfl rfl rfl rfl rfl (fun W' kk => cQ rfl rfl) (cF 67 71 rfl rfl rfl rfl rfl (fun W' kk => cQ rfl rfl) (bq [(37, _), (72, _)] rfl rfl ⟨rfl, rfl, trivial⟩ rfl (a8 (vs := [_, _]) rfl (dL _ _ _ _ _ _ ((((X.h + (hi (14, 18, 41) X.e)) + ((X.e &&& X.f) ^^^ ((~~~X.e) &&& X.g))) + (((KB Kl).getD i 0) >>> 0)) + ((sch cT bs 64).getD i 0)) _)) ?_))))
  rintro _ w9 ⟨rfl, k8⟩
  refine ⟨k8, ?_⟩
  replace ow := ow.s8 k8
  replace oww := oww.s8 k8
  obtain ⟨hB, hbz⟩ := bN k8 hB hbz
  refine bz (oga rfl rfl (a6 (a9 [(4, _), (10, _), (9, _), (11, _), (1, _), (2, _), (13, _)] ⟨rfl, rfl, rfl, rfl, rfl, rfl, rfl, trivial⟩ (a5 (bf 33 [0, 1, 2, 3, 4, 5, 6, 8, 9, 10, 11, 12, 13, 14, 15, 16, 17, 18, 19, 20, 21, 22, 23, 24, 25, 26, 27, 28, 29, 30, 7, 31, 32] [7, 32] [] mixed [(4, _), (10, _), (9, _), (11, _), (1, _), (2, _), (13, _)] ⟨rfl, rfl, rfl, rfl, rfl, rfl, rfl, trivial⟩ (by decide +kernel) rfl (fun w10 k9 => ?_))))))
  replace ow := ow.s8 k9
  replace oww := oww.s8 k9
  obtain ⟨hB, hbz⟩ := bN k9 hB hbz
  refine am 4 rfl rfl rfl rfl (fun W' kk => aa (cs' := [_, _, _, _, _, _, _]) dU cz rfl (Bk.s8 hbz kk) rfl rfl) (am 4 rfl rfl rfl rfl (fun W' kk => aa (cs' := [_, _, _, _, _, _, _]) dU cz rfl (Bk.s8 hbz kk) rfl rfl) (bL 10 rfl rfl rfl rfl rfl (am 76 rfl rfl rfl rfl (fun W' kk => bk aC ag rfl (Rd.s8 ow.rd kk) rfl (by constructor <;> first | omega | (show (_ : Int) < 8; omega))) (am 77 rfl rfl rfl rfl (fun W' kk => cq (l := (eT X)) 0 au rfl (Rd.s8 ow.rd kk) rfl (bP rfl)) (am 4 rfl rfl rfl rfl (fun W' kk => ax 5 aO rfl ty87 (by decide) rfl rfl) (am 79 rfl rfl rfl rfl (fun W' kk => ah sc87 rfl (Bk.s8 hbz kk) rfl) (bL 10 rfl rfl rfl rfl rfl (am 82 rfl rfl rfl rfl (fun W' kk => bk aC ag rfl (Rd.s8 ow.rd kk) rfl (by constructor <;> first | omega | (show (_ : Int) < 8; omega))) ?_))))))))
  refine am 83 rfl rfl rfl rfl (fun W' kk => cq (l := (eT X)) 0 au rfl (Rd.s8 ow.rd kk) rfl (bP rfl)) (bL 10 rfl rfl rfl rfl rfl (am 85 rfl rfl rfl rfl (fun W' kk => bk aC ag rfl (Rd.s8 ow.rd kk) rfl (by constructor <;> first | omega | (show (_ : Int) < 8; omega))) (am 86 rfl rfl rfl rfl (fun W' kk => cq (l := (eT X)) 1 au rfl (Rd.s8 ow.rd kk) rfl (bP rfl)) (cF 84 87 rfl rfl rfl rfl rfl (fun W' kk => fG rfl rfl) (bL 10 rfl rfl rfl rfl rfl (am 89 rfl rfl rfl rfl (fun W' kk => bk aC ag rfl (Rd.s8 ow.rd kk) rfl (by constructor <;> first | omega | (show (_ : Int) < 8; omega))) (am 90 rfl rfl rfl rfl (fun W' kk => cq (l := (eT X)) 0 au rfl (Rd.s8 ow.rd kk) rfl (bP rfl)) (bL 10 rfl rfl rfl rfl rfl ?_))))))))
  refine am 92 rfl rfl rfl rfl (fun W' kk => bk aC ag rfl (Rd.s8 ow.rd kk) rfl (by constructor <;> first | omega | (show (_ : Int) < 8; omega))) (am 93 rfl rfl rfl rfl (fun W' kk => cq (l := (eT X)) 2 au rfl (Rd.s8 ow.rd kk) rfl (bP rfl)) (cF 91 94 rfl rfl rfl rfl rfl (fun W' kk => fG rfl rfl) (cF 88 95 rfl rfl rfl rfl rfl (fun W' kk => eV rfl rfl) (bL 10 rfl rfl rfl rfl rfl (am 97 rfl rfl rfl rfl (fun W' kk => bk aC ag rfl (Rd.s8 ow.rd kk) rfl (by constructor <;> first | omega | (show (_ : Int) < 8; omega))) (am 98 rfl rfl rfl rfl (fun W' kk => cq (l := (eT X)) 1 au rfl (Rd.s8 ow.rd kk) rfl (bP rfl)) (bL 10 rfl rfl rfl rfl rfl (am 100 rfl rfl rfl rfl (fun W' kk => bk aC ag rfl (Rd.s8 ow.rd kk) rfl (by constructor <;> first | omega | (show (_ : Int) < 8; omega))) ?_))))))))
  refine am 101 rfl rfl rfl rfl (fun W' kk => cq (l := (eT X)) 2 au rfl (Rd.s8 ow.rd kk) rfl (bP rfl)) (cF 99 102 rfl rfl rfl rfl rfl (fun W' kk => fG rfl rfl) (cF 96 103 rfl rfl rfl rfl rfl (fun W' kk => eV rfl rfl) (bq [(75, _), (78, _), (80, _)] rfl rfl ⟨rfl, rfl, rfl, trivial⟩ rfl (a8 (vs := [_, _, _]) rfl (jy _ _ _ _ _ _ X.a _ 28 34 39 (by decide) (by decide) (by decide) _ (hu0.s8 hB))) ?_)))
  rintro _ w11 ⟨rfl, k10⟩
  refine ⟨k10, ?_⟩
  replace ow := ow.s8 k10
  replace oww := oww.s8 k10
  obtain ⟨hB, hbz⟩ := bN k10 hB hbz
  refine cF 81 104 rfl rfl rfl rfl rfl (fun W' kk => cQ rfl rfl) (bq [(74, _), (105, _)] rfl rfl ⟨rfl, rfl, trivial⟩ rfl (a8 (vs := [_, _]) rfl (dL _ _ _ _ _ _ ((hi (28, 34, 39) X.a) + (((X.a &&& X.b) ^^^ (X.a &&& X.c)) ^^^ (X.b &&& X.c))) _)) ?_)
  rintro _ w12 ⟨rfl, k11⟩
  refine ⟨k11, ?_⟩
  replace ow := ow.s8 k11
  replace oww := oww.s8 k11
  obtain ⟨hB, hbz⟩ := bN k11 hB hbz
  refine bz (oga rfl rfl (a6 (a9 [(4, _), (10, _), (9, _), (11, _), (1, _), (2, _), (13, _), (14, _)] ⟨rfl, rfl, rfl, rfl, rfl, rfl, rfl, rfl, trivial⟩ (bf 31 [0, 1, 2, 3, 5, 6, 7, 8, 9, 10, 11, 12, 13, 14, 15, 16, 17, 18, 19, 21, 22, 23, 24, 25, 26, 27, 28, 29, 4, 20, 30] [4, 20, 30] [] mixed [(4, _), (13, _), (14, _), (10, _), (9, _), (11, _), (1, _), (2, _)] ⟨rfl, rfl, rfl, rfl, rfl, rfl, rfl, rfl, trivial⟩ (by decide +kernel) rfl (fun w13 k12 => ?_)))))
  replace ow := ow.s8 k12
  replace oww := oww.s8 k12
  obtain ⟨hB, hbz⟩ := bN k12 hB hbz
  refine am 4 rfl rfl rfl rfl (fun W' kk => aa (cs' := [_, _, _, _, _, _, _]) dU cz rfl (Bk.s8 hbz kk) rfl rfl) (bL 13 rfl rfl rfl rfl rfl (bL 14 rfl rfl rfl rfl rfl (cF 108 109 rfl rfl rfl rfl rfl (fun W' kk => cQ rfl rfl) (bL 10 rfl rfl rfl rfl rfl (am 112 rfl rfl rfl rfl (fun W' kk => bk aC ag rfl (Rd.s8 ow.rd kk) rfl (by constructor <;> first | omega | (show (_ : Int) < 8; omega))) (am 113 rfl rfl rfl rfl (fun W' kk => cq (l := (eT X)) 0 au rfl (Rd.s8 ow.rd kk) rfl (bP rfl)) (bL 10 rfl rfl rfl rfl rfl (am 115 rfl rfl rfl rfl (fun W' kk => bk aC ag rfl (Rd.s8 ow.rd kk) rfl (by constructor <;> first | omega | (show (_ : Int) < 8; omega))) ?_))))))))
  refine am 116 rfl rfl rfl rfl (fun W' kk => cq (l := (eT X)) 1 au rfl (Rd.s8 ow.rd kk) rfl (bP rfl)) (bL 10 rfl rfl rfl rfl rfl (am 118 rfl rfl rfl rfl (fun W' kk => bk aC ag rfl (Rd.s8 ow.rd kk) rfl (by constructor <;> first | omega | (show (_ : Int) < 8; omega))) (am 119 rfl rfl rfl rfl (fun W' kk => cq (l := (eT X)) 2 au rfl (Rd.s8 ow.rd kk) rfl (bP rfl)) (am 4 rfl rfl rfl rfl (fun W' kk => aa (cs' := [_, _, _, _, _, _, _]) dU cz rfl (Bk.s8 hbz kk) rfl rfl) (bL 10 rfl rfl rfl rfl rfl (am 122 rfl rfl rfl rfl (fun W' kk => bk aC ag rfl (Rd.s8 ow.rd kk) rfl (by constructor <;> first | omega | (show (_ : Int) < 8; omega))) (am 123 rfl rfl rfl rfl (fun W' kk => cq (l := (eT X)) 3 au rfl (Rd.s8 ow.rd kk) rfl (bP rfl)) (bL 13 rfl rfl rfl rfl rfl ?_))))))))
  refine cF 124 125 rfl rfl rfl rfl rfl (fun W' kk => cQ rfl rfl) (bL 10 rfl rfl rfl rfl rfl (am 128 rfl rfl rfl rfl (fun W' kk => bk aC ag rfl (Rd.s8 ow.rd kk) rfl (by constructor <;> first | omega | (show (_ : Int) < 8; omega))) (am 129 rfl rfl rfl rfl (fun W' kk => cq (l := (eT X)) 4 au rfl (Rd.s8 ow.rd kk) rfl (bP rfl)) (bL 10 rfl rfl rfl rfl rfl (am 131 rfl rfl rfl rfl (fun W' kk => bk aC ag rfl (Rd.s8 ow.rd kk) rfl (by constructor <;> first | omega | (show (_ : Int) < 8; omega))) (am 132 rfl rfl rfl rfl (fun W' kk => cq (l := (eT X)) 5 au rfl (Rd.s8 ow.rd kk) rfl (bP rfl)) (bL 10 rfl rfl rfl rfl rfl (am 134 rfl rfl rfl rfl (fun W' kk => bk aC ag rfl (Rd.s8 ow.rd kk) rfl (by constructor <;> first | omega | (show (_ : Int) < 8; omega))) ?_))))))))
  refine am 135 rfl rfl rfl rfl (fun W' kk => cq (l := (eT X)) 6 au rfl (Rd.s8 ow.rd kk) rfl (bP rfl)) (bq [(107, _), (110, _)] rfl rfl ⟨rfl, rfl, trivial⟩ rfl (a8 (vs := [_, _]) rfl (dL _ _ _ _ _ _ (((((X.h + (hi (14, 18, 41) X.e)) + ((X.e &&& X.f) ^^^ ((~~~X.e) &&& X.g))) + (((KB Kl).getD i 0) >>> 0)) + ((sch cT bs 64).getD i 0)) + ((hi (28, 34, 39) X.a) + (((X.a &&& X.b) ^^^ (X.a &&& X.c)) ^^^ (X.b &&& X.c)))) _)) ?_)
  rintro _ w14 ⟨rfl, k13⟩
  refine ⟨k13, ?_⟩
  replace ow := ow.s8 k13
  replace oww := oww.s8 k13
  obtain ⟨hB, hbz⟩ := bN k13 hB hbz
  refine bq [(121, _), (126, _)] rfl rfl ⟨rfl, rfl, trivial⟩ rfl (a8 (vs := [_, _]) rfl (dL _ _ _ _ _ _ (X.d + ((((X.h + (hi (14, 18, 41) X.e)) + ((X.e &&& X.f) ^^^ ((~~~X.e) &&& X.g))) + (((KB Kl).getD i 0) >>> 0)) + ((sch cT bs 64).getD i 0))) _)) ?_
  rintro _ w15 ⟨rfl, k14⟩
  refine ⟨k14, ?_⟩
  replace ow := ow.s8 k14
  replace oww := oww.s8 k14
  obtain ⟨hB, hbz⟩ := bN k14 hB hbz
  refine bq [(111, _), (114, _), (117, _), (120, _), (127, _), (130, _), (133, _), (136, _)] rfl rfl ⟨rfl, rfl, rfl, rfl, rfl, rfl, rfl, rfl, trivial⟩ rfl (dv (m := 8) (xs := [.tmp 111, .tmp 114, .tmp 117, .tmp 120, .tmp 127, .tmp 130, .tmp 133, .tmp 136]) (vs := [_, _, _, _, _, _, _, _]) aC ag (by decide) rfl rfl rfl (by simp only [List.forall_mem_cons]; exact ⟨rfl, rfl, rfl, rfl, rfl, rfl, rfl, rfl, fun v hv => by cases hv⟩) (by decide)) ?_
  rintro v4 w16 ⟨o4, nn2, lb3, k15, z3⟩
  refine ⟨k15, ?_⟩
  have gl_o4 := hB.size
  have sb_b1_o4 := fun x hx => (show x ≠ b1 from by have h1 := (o4.blk x hx).1; have h2 := hbz.lt; omega)
  replace ow := ow.s8 k15
  replace oww := oww.s8 k15
  obtain ⟨hB, hbz⟩ := bN k15 hB hbz
  refine bz (oga rfl rfl (a6 (a9 [(4, _), (10, _), (9, _), (11, _), (1, _), (2, _)] ⟨rfl, rfl, rfl, rfl, rfl, rfl, trivial⟩ (bZ (aZ (ogm rfl rfl (a7 (bi rfl rfl (by omega)) rfl (oga rfl rfl (a6 (bM (Γ := Nat × S8 64 × Value) ⟨i + 1, rnd cT (cst 64 Kl i) ((sch cT bs 64).getD i 0) X, v4⟩ ⟨rfl, rfl, rfl, rfl, rfl, rfl, trivial⟩ (by (try dsimp only); omega) (⟨by omega, by rw [hX]; rfl, by rw [← gH]; exact o4.lo gl_o4, oww, sb_b1_o4, hbz, hB⟩)))))))))))
 ·
  refine bF rfl (a5 (a5 (aZ ?_)))
  obtain rfl : i = 80 := by omega
  replace ow : Own w5 w.heap.size 47 1 o 8 [.int .u64 ((X.a).toNat : Int), .int .u64 ((X.b).toNat : Int), .int .u64 ((X.c).toNat : Int), .int .u64 ((X.d).toNat : Int), .int .u64 ((X.e).toNat : Int), .int .u64 ((X.f).toNat : Int), .int .u64 ((X.g).toNat : Int), .int .u64 ((X.h).toNat : Int)] := ow
  have go_o := fun x hx => (ow.blk x hx).1
  refine oga rfl rfl (a6 (ab (d8 9 (a5 (a5 (aZ (ogm rfl rfl (a7 (bd rfl rfl) rfl (a6 (bg rfl (by decide) (af (a5 (ab (bf 13 [0, 1, 2, 3, 4, 5, 6, 7, 8, 9, 10, 11, 12] [12] [] mixed [(10, _), (15, _), (4, _), (1, _)] ⟨rfl, rfl, rfl, rfl, trivial⟩ (by decide +kernel) rfl (fun w17 k16 => ?_)))))))))))))))
  replace ow := ow.s8 k16
  obtain ⟨hB, hbz⟩ := bN k16 hB hbz
  refine bL 10 rfl rfl rfl rfl rfl (bL 15 rfl rfl rfl rfl rfl (am 4 rfl rfl rfl rfl (fun W' kk => aa (cs' := [_, _, _, _, _, _, _]) dU cz rfl (Bk.s8 hbz kk) rfl rfl) (bL 10 rfl rfl rfl rfl rfl (bL 15 rfl rfl rfl rfl rfl (cF 145 146 rfl rfl rfl rfl rfl (fun W' kk => bk aC ag rfl (ow.s8 kk).rd rfl (by omega)) (am 147 rfl rfl rfl rfl (fun W' kk => eW au rfl (by first | exact Rd.s8 ‹_› kk | exact Rd.s8 (Own.rd ‹_›) kk | exact Rd.s8 (Rd.s8 ‹_› hB) kk | exact Rd.s8 (Own.rd (Own.s8 ‹_› hB)) kk) rfl) (bL 1 rfl rfl rfl rfl rfl (bL 15 rfl rfl rfl rfl rfl ?_))))))))
  refine cF 149 150 rfl rfl rfl rfl rfl (fun W' kk => bk aC ag rfl (Rd.s8 (hs.s8 hB) kk) rfl (by constructor <;> first | omega | (show (_ : Int) < 8; omega))) (am 151 rfl rfl rfl rfl (fun W' kk => cq (l := (eT s)) 0 au rfl (Rd.s8 (hs.s8 hB) kk) rfl (bP rfl)) (cF 148 152 rfl rfl rfl rfl rfl (fun W' kk => cQ rfl rfl) (bq [(144, _), (153, _)] rfl rfl ⟨rfl, rfl, trivial⟩ rfl (a8 (vs := [_, _]) rfl (dL _ _ _ _ _ _ (X.a + s.a) _)) ?_)))
  rintro _ w18 ⟨rfl, k17⟩
  refine ⟨k17, ?_⟩
  replace ow := ow.s8 k17
  obtain ⟨hB, hbz⟩ := bN k17 hB hbz
  refine bz (a7 (bk aC ag rfl ow.rd rfl (by omega)) rfl (ae (eY (u := .int .u64 ((X.a + s.a).toNat : Int)) ag rfl rfl rfl ow (bP rfl)) ?_))
  rintro _ w19 ⟨o5, k18, z4⟩
  have z_k18 := k18.size
  replace o5 : Own w19 _ 47 1 o 8 [.int .u64 ((X.a + s.a).toNat : Int), .int .u64 ((X.b).toNat : Int), .int .u64 ((X.c).toNat : Int), .int .u64 ((X.d).toNat : Int), .int .u64 ((X.e).toNat : Int), .int .u64 ((X.f).toNat : Int), .int .u64 ((X.g).toNat : Int), .int .u64 ((X.h).toNat : Int)] := o5
  replace hbz := hbz.keep k18 (fun hm => hno _ hm rfl)
  replace hB := hB.new k18 (fun x hx => .inl (go_o x hx))
  clear z_k18 z4
  refine a6 (a9 [(10, _), (15, _), (4, _), (1, _)] ⟨rfl, rfl, rfl, rfl, trivial⟩ (bZ (aZ (ogm rfl rfl (a7 (bC (j := 1) (ay rfl rfl) (by decide)) rfl (oga rfl rfl (a6 (cH (a5 (a5 (aZ (ogm rfl rfl (a7 (bd rfl rfl) rfl (a6 (bg rfl (by decide) (af (a5 (ab (bf 13 [0, 1, 2, 3, 4, 5, 6, 7, 8, 9, 10, 11, 12] [12] [] mixed [(10, _), (15, _), (4, _), (1, _)] ⟨rfl, rfl, rfl, rfl, trivial⟩ (by decide +kernel) rfl (fun w20 k19 => ?_))))))))))))))))))))
  replace hbz := hbz.s8 k19
  replace o5 := o5.s8 k19
  replace hB := hB.trans k19
  refine bL 10 rfl rfl rfl rfl rfl (bL 15 rfl rfl rfl rfl rfl (am 4 rfl rfl rfl rfl (fun W' kk => aa (cs' := [_, _, _, _, _, _, _]) dU cz rfl (Bk.s8 hbz kk) rfl rfl) (bL 10 rfl rfl rfl rfl rfl (bL 15 rfl rfl rfl rfl rfl (cF 145 146 rfl rfl rfl rfl rfl (fun W' kk => bk aC ag rfl (by first | exact Rd.s8 ‹_› kk | exact Rd.s8 (Own.rd ‹_›) kk | exact Rd.s8 (Rd.s8 ‹_› hB) kk | exact Rd.s8 (Own.rd (Own.s8 ‹_› hB)) kk) rfl (by omega)) (am 147 rfl rfl rfl rfl (fun W' kk => eW au rfl (by first | exact Rd.s8 ‹_› kk | exact Rd.s8 (Own.rd ‹_›) kk | exact Rd.s8 (Rd.s8 ‹_› hB) kk | exact Rd.s8 (Own.rd (Own.s8 ‹_› hB)) kk) rfl) (bL 1 rfl rfl rfl rfl rfl (bL 15 rfl rfl rfl rfl rfl ?_))))))))
  refine cF 149 150 rfl rfl rfl rfl rfl (fun W' kk => bk aC ag rfl (Rd.s8 (hs.s8 hB) kk) rfl (by constructor <;> first | omega | (show (_ : Int) < 8; omega))) (am 151 rfl rfl rfl rfl (fun W' kk => cq (l := (eT s)) 1 au rfl (Rd.s8 (hs.s8 hB) kk) rfl (bP rfl)) (cF 148 152 rfl rfl rfl rfl rfl (fun W' kk => cQ rfl rfl) (bq [(144, _), (153, _)] rfl rfl ⟨rfl, rfl, trivial⟩ rfl (a8 (vs := [_, _]) rfl (dL _ _ _ _ _ _ (X.b + s.b) _)) ?_)))
  rintro _ w21 ⟨rfl, k20⟩
  refine ⟨k20, ?_⟩
  replace hbz := hbz.s8 k20
  replace o5 := o5.s8 k20
  replace hB := hB.trans k20
  refine bz (a7 (bk aC ag rfl (by first | assumption | exact Own.rd ‹_› | exact Rd.s8 ‹_› hB | exact Own.rd (Own.s8 ‹_› hB)) rfl (by omega)) rfl (ae (eY (u := .int .u64 ((X.b + s.b).toNat : Int)) ag rfl rfl rfl o5 (bP rfl)) ?_))
  rintro _ w22 ⟨o6, k21, z5⟩
  have z_k21 := k21.size
  replace o6 : Own w22 _ 47 1 o 8 [.int .u64 ((X.a + s.a).toNat : Int), .int .u64 ((X.b + s.b).toNat : Int), .int .u64 ((X.c).toNat : Int), .int .u64 ((X.d).toNat : Int), .int .u64 ((X.e).toNat : Int), .int .u64 ((X.f).toNat : Int), .int .u64 ((X.g).toNat : Int), .int .u64 ((X.h).toNat : Int)] := o6
  replace hbz := hbz.keep k21 (fun hm => hno _ hm rfl)
  replace hB := hB.new k21 (fun x hx => .inl (go_o x hx))
  clear z_k21 z5
  refine a6 (a9 [(10, _), (15, _), (4, _), (1, _)] ⟨rfl, rfl, rfl, rfl, trivial⟩ (bZ (aZ (ogm rfl rfl (a7 (bC (j := 2) (ay rfl rfl) (by decide)) rfl (oga rfl rfl (a6 (cH (a5 (a5 (aZ (ogm rfl rfl (a7 (bd rfl rfl) rfl (a6 (bg rfl (by decide) (af (a5 (ab (bf 13 [0, 1, 2, 3, 4, 5, 6, 7, 8, 9, 10, 11, 12] [12] [] mixed [(10, _), (15, _), (4, _), (1, _)] ⟨rfl, rfl, rfl, rfl, trivial⟩ (by decide +kernel) rfl (fun w23 k22 => ?_))))))))))))))))))))
  replace hbz := hbz.s8 k22
  replace o6 := o6.s8 k22
  replace hB := hB.trans k22
  refine bL 10 rfl rfl rfl rfl rfl (bL 15 rfl rfl rfl rfl rfl (am 4 rfl rfl rfl rfl (fun W' kk => aa (cs' := [_, _, _, _, _, _, _]) dU cz rfl (Bk.s8 hbz kk) rfl rfl) (bL 10 rfl rfl rfl rfl rfl (bL 15 rfl rfl rfl rfl rfl (cF 145 146 rfl rfl rfl rfl rfl (fun W' kk => bk aC ag rfl (by first | exact Rd.s8 ‹_› kk | exact Rd.s8 (Own.rd ‹_›) kk | exact Rd.s8 (Rd.s8 ‹_› hB) kk | exact Rd.s8 (Own.rd (Own.s8 ‹_› hB)) kk) rfl (by omega)) (am 147 rfl rfl rfl rfl (fun W' kk => eW au rfl (by first | exact Rd.s8 ‹_› kk | exact Rd.s8 (Own.rd ‹_›) kk | exact Rd.s8 (Rd.s8 ‹_› hB) kk | exact Rd.s8 (Own.rd (Own.s8 ‹_› hB)) kk) rfl) (bL 1 rfl rfl rfl rfl rfl (bL 15 rfl rfl rfl rfl rfl ?_))))))))
  refine cF 149 150 rfl rfl rfl rfl rfl (fun W' kk => bk aC ag rfl (Rd.s8 (hs.s8 hB) kk) rfl (by constructor <;> first | omega | (show (_ : Int) < 8; omega))) (am 151 rfl rfl rfl rfl (fun W' kk => cq (l := (eT s)) 2 au rfl (Rd.s8 (hs.s8 hB) kk) rfl (bP rfl)) (cF 148 152 rfl rfl rfl rfl rfl (fun W' kk => cQ rfl rfl) (bq [(144, _), (153, _)] rfl rfl ⟨rfl, rfl, trivial⟩ rfl (a8 (vs := [_, _]) rfl (dL _ _ _ _ _ _ (X.c + s.c) _)) ?_)))
  rintro _ w24 ⟨rfl, k23⟩
  refine ⟨k23, ?_⟩
  replace hbz := hbz.s8 k23
  replace o6 := o6.s8 k23
  replace hB := hB.trans k23
  refine bz (a7 (bk aC ag rfl (by first | assumption | exact Own.rd ‹_› | exact Rd.s8 ‹_› hB | exact Own.rd (Own.s8 ‹_› hB)) rfl (by omega)) rfl (ae (eY (u := .int .u64 ((X.c + s.c).toNat : Int)) ag rfl rfl rfl o6 (bP rfl)) ?_))
  rintro _ w25 ⟨o7, k24, z6⟩
  have z_k24 := k24.size
  replace o7 : Own w25 _ 47 1 o 8 [.int .u64 ((X.a + s.a).toNat : Int), .int .u64 ((X.b + s.b).toNat : Int), .int .u64 ((X.c + s.c).toNat : Int), .int .u64 ((X.d).toNat : Int), .int .u64 ((X.e).toNat : Int), .int .u64 ((X.f).toNat : Int), .int .u64 ((X.g).toNat : Int), .int .u64 ((X.h).toNat : Int)] := o7
  replace hbz := hbz.keep k24 (fun hm => hno _ hm rfl)
  replace hB := hB.new k24 (fun x hx => .inl (go_o x hx))
  clear z_k24 z6
  refine a6 (a9 [(10, _), (15, _), (4, _), (1, _)] ⟨rfl, rfl, rfl, rfl, trivial⟩ (bZ (aZ (ogm rfl rfl (a7 (bC (j := 3) (ay rfl rfl) (by decide)) rfl (oga rfl rfl (a6 (cH (a5 (a5 (aZ (ogm rfl rfl (a7 (bd rfl rfl) rfl (a6 (bg rfl (by decide) (af (a5 (ab (bf 13 [0, 1, 2, 3, 4, 5, 6, 7, 8, 9, 10, 11, 12] [12] [] mixed [(10, _), (15, _), (4, _), (1, _)] ⟨rfl, rfl, rfl, rfl, trivial⟩ (by decide +kernel) rfl (fun w26 k25 => ?_))))))))))))))))))))
  replace hbz := hbz.s8 k25
  replace o7 := o7.s8 k25
  replace hB := hB.trans k25
  refine bL 10 rfl rfl rfl rfl rfl (bL 15 rfl rfl rfl rfl rfl (am 4 rfl rfl rfl rfl (fun W' kk => aa (cs' := [_, _, _, _, _, _, _]) dU cz rfl (Bk.s8 hbz kk) rfl rfl) (bL 10 rfl rfl rfl rfl rfl (bL 15 rfl rfl rfl rfl rfl (cF 145 146 rfl rfl rfl rfl rfl (fun W' kk => bk aC ag rfl (by first | exact Rd.s8 ‹_› kk | exact Rd.s8 (Own.rd ‹_›) kk | exact Rd.s8 (Rd.s8 ‹_› hB) kk | exact Rd.s8 (Own.rd (Own.s8 ‹_› hB)) kk) rfl (by omega)) (am 147 rfl rfl rfl rfl (fun W' kk => eW au rfl (by first | exact Rd.s8 ‹_› kk | exact Rd.s8 (Own.rd ‹_›) kk | exact Rd.s8 (Rd.s8 ‹_› hB) kk | exact Rd.s8 (Own.rd (Own.s8 ‹_› hB)) kk) rfl) (bL 1 rfl rfl rfl rfl rfl (bL 15 rfl rfl rfl rfl rfl ?_))))))))
  refine cF 149 150 rfl rfl rfl rfl rfl (fun W' kk => bk aC ag rfl (Rd.s8 (hs.s8 hB) kk) rfl (by constructor <;> first | omega | (show (_ : Int) < 8; omega))) (am 151 rfl rfl rfl rfl (fun W' kk => cq (l := (eT s)) 3 au rfl (Rd.s8 (hs.s8 hB) kk) rfl (bP rfl)) (cF 148 152 rfl rfl rfl rfl rfl (fun W' kk => cQ rfl rfl) (bq [(144, _), (153, _)] rfl rfl ⟨rfl, rfl, trivial⟩ rfl (a8 (vs := [_, _]) rfl (dL _ _ _ _ _ _ (X.d + s.d) _)) ?_)))
  rintro _ w27 ⟨rfl, k26⟩
  refine ⟨k26, ?_⟩
  replace hbz := hbz.s8 k26
  replace o7 := o7.s8 k26
  replace hB := hB.trans k26
  refine bz (a7 (bk aC ag rfl (by first | assumption | exact Own.rd ‹_› | exact Rd.s8 ‹_› hB | exact Own.rd (Own.s8 ‹_› hB)) rfl (by omega)) rfl (ae (eY (u := .int .u64 ((X.d + s.d).toNat : Int)) ag rfl rfl rfl o7 (bP rfl)) ?_))
  rintro _ w28 ⟨o8, k27, z7⟩
  have z_k27 := k27.size
  replace o8 : Own w28 _ 47 1 o 8 [.int .u64 ((X.a + s.a).toNat : Int), .int .u64 ((X.b + s.b).toNat : Int), .int .u64 ((X.c + s.c).toNat : Int), .int .u64 ((X.d + s.d).toNat : Int), .int .u64 ((X.e).toNat : Int), .int .u64 ((X.f).toNat : Int), .int .u64 ((X.g).toNat : Int), .int .u64 ((X.h).toNat : Int)] := o8
  replace hbz := hbz.keep k27 (fun hm => hno _ hm rfl)
  replace hB := hB.new k27 (fun x hx => .inl (go_o x hx))
  clear z_k27 z7
  refine a6 (a9 [(10, _), (15, _), (4, _), (1, _)] ⟨rfl, rfl, rfl, rfl, trivial⟩ (bZ (aZ (ogm rfl rfl (a7 (bC (j := 4) (ay rfl rfl) (by decide)) rfl (oga rfl rfl (a6 (cH (a5 (a5 (aZ (ogm rfl rfl (a7 (bd rfl rfl) rfl (a6 (bg rfl (by decide) (af (a5 (ab (bf 13 [0, 1, 2, 3, 4, 5, 6, 7, 8, 9, 10, 11, 12] [12] [] mixed [(10, _), (15, _), (4, _), (1, _)] ⟨rfl, rfl, rfl, rfl, trivial⟩ (by decide +kernel) rfl (fun w29 k28 => ?_))))))))))))))))))))
  replace hbz := hbz.s8 k28
  replace o8 := o8.s8 k28
  replace hB := hB.trans k28
  refine bL 10 rfl rfl rfl rfl rfl (bL 15 rfl rfl rfl rfl rfl (am 4 rfl rfl rfl rfl (fun W' kk => aa (cs' := [_, _, _, _, _, _, _]) dU cz rfl (Bk.s8 hbz kk) rfl rfl) (bL 10 rfl rfl rfl rfl rfl (bL 15 rfl rfl rfl rfl rfl (cF 145 146 rfl rfl rfl rfl rfl (fun W' kk => bk aC ag rfl (by first | exact Rd.s8 ‹_› kk | exact Rd.s8 (Own.rd ‹_›) kk | exact Rd.s8 (Rd.s8 ‹_› hB) kk | exact Rd.s8 (Own.rd (Own.s8 ‹_› hB)) kk) rfl (by omega)) (am 147 rfl rfl rfl rfl (fun W' kk => eW au rfl (by first | exact Rd.s8 ‹_› kk | exact Rd.s8 (Own.rd ‹_›) kk | exact Rd.s8 (Rd.s8 ‹_› hB) kk | exact Rd.s8 (Own.rd (Own.s8 ‹_› hB)) kk) rfl) (bL 1 rfl rfl rfl rfl rfl (bL 15 rfl rfl rfl rfl rfl ?_))))))))
  refine cF 149 150 rfl rfl rfl rfl rfl (fun W' kk => bk aC ag rfl (Rd.s8 (hs.s8 hB) kk) rfl (by constructor <;> first | omega | (show (_ : Int) < 8; omega))) (am 151 rfl rfl rfl rfl (fun W' kk => cq (l := (eT s)) 4 au rfl (Rd.s8 (hs.s8 hB) kk) rfl (bP rfl)) (cF 148 152 rfl rfl rfl rfl rfl (fun W' kk => cQ rfl rfl) (bq [(144, _), (153, _)] rfl rfl ⟨rfl, rfl, trivial⟩ rfl (a8 (vs := [_, _]) rfl (dL _ _ _ _ _ _ (X.e + s.e) _)) ?_)))
  rintro _ w30 ⟨rfl, k29⟩
  refine ⟨k29, ?_⟩
  replace hbz := hbz.s8 k29
  replace o8 := o8.s8 k29
  replace hB := hB.trans k29
  refine bz (a7 (bk aC ag rfl (by first | assumption | exact Own.rd ‹_› | exact Rd.s8 ‹_› hB | exact Own.rd (Own.s8 ‹_› hB)) rfl (by omega)) rfl (ae (eY (u := .int .u64 ((X.e + s.e).toNat : Int)) ag rfl rfl rfl o8 (bP rfl)) ?_))
  rintro _ w31 ⟨o9, k30, z8⟩
  have z_k30 := k30.size
  replace o9 : Own w31 _ 47 1 o 8 [.int .u64 ((X.a + s.a).toNat : Int), .int .u64 ((X.b + s.b).toNat : Int), .int .u64 ((X.c + s.c).toNat : Int), .int .u64 ((X.d + s.d).toNat : Int), .int .u64 ((X.e + s.e).toNat : Int), .int .u64 ((X.f).toNat : Int), .int .u64 ((X.g).toNat : Int), .int .u64 ((X.h).toNat : Int)] := o9
  replace hbz := hbz.keep k30 (fun hm => hno _ hm rfl)
  replace hB := hB.new k30 (fun x hx => .inl (go_o x hx))
  clear z_k30 z8
  refine a6 (a9 [(10, _), (15, _), (4, _), (1, _)] ⟨rfl, rfl, rfl, rfl, trivial⟩ (bZ (aZ (ogm rfl rfl (a7 (bC (j := 5) (ay rfl rfl) (by decide)) rfl (oga rfl rfl (a6 (cH (a5 (a5 (aZ (ogm rfl rfl (a7 (bd rfl rfl) rfl (a6 (bg rfl (by decide) (af (a5 (ab (bf 13 [0, 1, 2, 3, 4, 5, 6, 7, 8, 9, 10, 11, 12] [12] [] mixed [(10, _), (15, _), (4, _), (1, _)] ⟨rfl, rfl, rfl, rfl, trivial⟩ (by decide +kernel) rfl (fun w32 k31 => ?_))))))))))))))))))))
  replace hbz := hbz.s8 k31
  replace o9 := o9.s8 k31
  replace hB := hB.trans k31
  refine bL 10 rfl rfl rfl rfl rfl (bL 15 rfl rfl rfl rfl rfl (am 4 rfl rfl rfl rfl (fun W' kk => aa (cs' := [_, _, _, _, _, _, _]) dU cz rfl (Bk.s8 hbz kk) rfl rfl) (bL 10 rfl rfl rfl rfl rfl (bL 15 rfl rfl rfl rfl rfl (cF 145 146 rfl rfl rfl rfl rfl (fun W' kk => bk aC ag rfl (by first | exact Rd.s8 ‹_› kk | exact Rd.s8 (Own.rd ‹_›) kk | exact Rd.s8 (Rd.s8 ‹_› hB) kk | exact Rd.s8 (Own.rd (Own.s8 ‹_› hB)) kk) rfl (by omega)) (am 147 rfl rfl rfl rfl (fun W' kk => eW au rfl (by first | exact Rd.s8 ‹_› kk | exact Rd.s8 (Own.rd ‹_›) kk | exact Rd.s8 (Rd.s8 ‹_› hB) kk | exact Rd.s8 (Own.rd (Own.s8 ‹_› hB)) kk) rfl) (bL 1 rfl rfl rfl rfl rfl (bL 15 rfl rfl rfl rfl rfl ?_))))))))
  refine cF 149 150 rfl rfl rfl rfl rfl (fun W' kk => bk aC ag rfl (Rd.s8 (hs.s8 hB) kk) rfl (by constructor <;> first | omega | (show (_ : Int) < 8; omega))) (am 151 rfl rfl rfl rfl (fun W' kk => cq (l := (eT s)) 5 au rfl (Rd.s8 (hs.s8 hB) kk) rfl (bP rfl)) (cF 148 152 rfl rfl rfl rfl rfl (fun W' kk => cQ rfl rfl) (bq [(144, _), (153, _)] rfl rfl ⟨rfl, rfl, trivial⟩ rfl (a8 (vs := [_, _]) rfl (dL _ _ _ _ _ _ (X.f + s.f) _)) ?_)))
  rintro _ w33 ⟨rfl, k32⟩
  refine ⟨k32, ?_⟩
  replace hbz := hbz.s8 k32
  replace o9 := o9.s8 k32
  replace hB := hB.trans k32
  refine bz (a7 (bk aC ag rfl (by first | assumption | exact Own.rd ‹_› | exact Rd.s8 ‹_› hB | exact Own.rd (Own.s8 ‹_› hB)) rfl (by omega)) rfl (ae (eY (u := .int .u64 ((X.f + s.f).toNat : Int)) ag rfl rfl rfl o9 (bP rfl)) ?_))
  rintro _ w34 ⟨o10, k33, z9⟩
  have z_k33 := k33.size
  replace o10 : Own w34 _ 47 1 o 8 [.int .u64 ((X.a + s.a).toNat : Int), .int .u64 ((X.b + s.b).toNat : Int), .int .u64 ((X.c + s.c).toNat : Int), .int .u64 ((X.d + s.d).toNat : Int), .int .u64 ((X.e + s.e).toNat : Int), .int .u64 ((X.f + s.f).toNat : Int), .int .u64 ((X.g).toNat : Int), .int .u64 ((X.h).toNat : Int)] := o10
  replace hbz := hbz.keep k33 (fun hm => hno _ hm rfl)
  replace hB := hB.new k33 (fun x hx => .inl (go_o x hx))
  clear z_k33 z9
  refine a6 (a9 [(10, _), (15, _), (4, _), (1, _)] ⟨rfl, rfl, rfl, rfl, trivial⟩ (bZ (aZ (ogm rfl rfl (a7 (bC (j := 6) (ay rfl rfl) (by decide)) rfl (oga rfl rfl (a6 (cH (a5 (a5 (aZ (ogm rfl rfl (a7 (bd rfl rfl) rfl (a6 (bg rfl (by decide) (af (a5 (ab (bf 13 [0, 1, 2, 3, 4, 5, 6, 7, 8, 9, 10, 11, 12] [12] [] mixed [(10, _), (15, _), (4, _), (1, _)] ⟨rfl, rfl, rfl, rfl, trivial⟩ (by decide +kernel) rfl (fun w35 k34 => ?_))))))))))))))))))))
  replace hbz := hbz.s8 k34
  replace o10 := o10.s8 k34
  replace hB := hB.trans k34
  refine bL 10 rfl rfl rfl rfl rfl (bL 15 rfl rfl rfl rfl rfl (am 4 rfl rfl rfl rfl (fun W' kk => aa (cs' := [_, _, _, _, _, _, _]) dU cz rfl (Bk.s8 hbz kk) rfl rfl) (bL 10 rfl rfl rfl rfl rfl (bL 15 rfl rfl rfl rfl rfl (cF 145 146 rfl rfl rfl rfl rfl (fun W' kk => bk aC ag rfl (by first | exact Rd.s8 ‹_› kk | exact Rd.s8 (Own.rd ‹_›) kk | exact Rd.s8 (Rd.s8 ‹_› hB) kk | exact Rd.s8 (Own.rd (Own.s8 ‹_› hB)) kk) rfl (by omega)) (am 147 rfl rfl rfl rfl (fun W' kk => eW au rfl (by first | exact Rd.s8 ‹_› kk | exact Rd.s8 (Own.rd ‹_›) kk | exact Rd.s8 (Rd.s8 ‹_› hB) kk | exact Rd.s8 (Own.rd (Own.s8 ‹_› hB)) kk) rfl) (bL 1 rfl rfl rfl rfl rfl (bL 15 rfl rfl rfl rfl rfl ?_))))))))
  refine cF 149 150 rfl rfl rfl rfl rfl (fun W' kk => bk aC ag rfl (Rd.s8 (hs.s8 hB) kk) rfl (by constructor <;> first | omega | (show (_ : Int) < 8; omega))) (am 151 rfl rfl rfl rfl (fun W' kk => cq (l := (eT s)) 6 au rfl (Rd.s8 (hs.s8 hB) kk) rfl (bP rfl)) (cF 148 152 rfl rfl rfl rfl rfl (fun W' kk => cQ rfl rfl) (bq [(144, _), (153, _)] rfl rfl ⟨rfl, rfl, trivial⟩ rfl (a8 (vs := [_, _]) rfl (dL _ _ _ _ _ _ (X.g + s.g) _)) ?_)))
  rintro _ w36 ⟨rfl, k35⟩
  refine ⟨k35, ?_⟩
  replace hbz := hbz.s8 k35
  replace o10 := o10.s8 k35
  replace hB := hB.trans k35
  refine bz (a7 (bk aC ag rfl (by first | assumption | exact Own.rd ‹_› | exact Rd.s8 ‹_› hB | exact Own.rd (Own.s8 ‹_› hB)) rfl (by omega)) rfl (ae (eY (u := .int .u64 ((X.g + s.g).toNat : Int)) ag rfl rfl rfl o10 (bP rfl)) ?_))
  rintro _ w37 ⟨o11, k36, z10⟩
  have z_k36 := k36.size
  replace o11 : Own w37 _ 47 1 o 8 [.int .u64 ((X.a + s.a).toNat : Int), .int .u64 ((X.b + s.b).toNat : Int), .int .u64 ((X.c + s.c).toNat : Int), .int .u64 ((X.d + s.d).toNat : Int), .int .u64 ((X.e + s.e).toNat : Int), .int .u64 ((X.f + s.f).toNat : Int), .int .u64 ((X.g + s.g).toNat : Int), .int .u64 ((X.h).toNat : Int)] := o11
  replace hbz := hbz.keep k36 (fun hm => hno _ hm rfl)
  replace hB := hB.new k36 (fun x hx => .inl (go_o x hx))
  clear z_k36 z10
  refine a6 (a9 [(10, _), (15, _), (4, _), (1, _)] ⟨rfl, rfl, rfl, rfl, trivial⟩ (bZ (aZ (ogm rfl rfl (a7 (bC (j := 7) (ay rfl rfl) (by decide)) rfl (oga rfl rfl (a6 (cH (a5 (a5 (aZ (ogm rfl rfl (a7 (bd rfl rfl) rfl (a6 (bg rfl (by decide) (af (a5 (ab (bf 13 [0, 1, 2, 3, 4, 5, 6, 7, 8, 9, 10, 11, 12] [12] [] mixed [(10, _), (15, _), (4, _), (1, _)] ⟨rfl, rfl, rfl, rfl, trivial⟩ (by decide +kernel) rfl (fun w38 k37 => ?_))))))))))))))))))))
  replace hbz := hbz.s8 k37
  replace o11 := o11.s8 k37
  replace hB := hB.trans k37
  refine bL 10 rfl rfl rfl rfl rfl (bL 15 rfl rfl rfl rfl rfl (am 4 rfl rfl rfl rfl (fun W' kk => aa (cs' := [_, _, _, _, _, _, _]) dU cz rfl (Bk.s8 hbz kk) rfl rfl) (bL 10 rfl rfl rfl rfl rfl (bL 15 rfl rfl rfl rfl rfl (cF 145 146 rfl rfl rfl rfl rfl (fun W' kk => bk aC ag rfl (by first | exact Rd.s8 ‹_› kk | exact Rd.s8 (Own.rd ‹_›) kk | exact Rd.s8 (Rd.s8 ‹_› hB) kk | exact Rd.s8 (Own.rd (Own.s8 ‹_› hB)) kk) rfl (by omega)) (am 147 rfl rfl rfl rfl (fun W' kk => eW au rfl (by first | exact Rd.s8 ‹_› kk | exact Rd.s8 (Own.rd ‹_›) kk | exact Rd.s8 (Rd.s8 ‹_› hB) kk | exact Rd.s8 (Own.rd (Own.s8 ‹_› hB)) kk) rfl) (bL 1 rfl rfl rfl rfl rfl (bL 15 rfl rfl rfl rfl rfl ?_))))))))
  refine cF 149 150 rfl rfl rfl rfl rfl (fun W' kk => bk aC ag rfl (Rd.s8 (hs.s8 hB) kk) rfl (by constructor <;> first | omega | (show (_ : Int) < 8; omega))) (am 151 rfl rfl rfl rfl (fun W' kk => cq (l := (eT s)) 7 au rfl (Rd.s8 (hs.s8 hB) kk) rfl (bP rfl)) (cF 148 152 rfl rfl rfl rfl rfl (fun W' kk => cQ rfl rfl) (bq [(144, _), (153, _)] rfl rfl ⟨rfl, rfl, trivial⟩ rfl (a8 (vs := [_, _]) rfl (dL _ _ _ _ _ _ (X.h + s.h) _)) ?_)))
  rintro _ w39 ⟨rfl, k38⟩
  refine ⟨k38, ?_⟩
  replace hbz := hbz.s8 k38
  replace o11 := o11.s8 k38
  replace hB := hB.trans k38
  refine bz (a7 (bk aC ag rfl (by first | assumption | exact Own.rd ‹_› | exact Rd.s8 ‹_› hB | exact Own.rd (Own.s8 ‹_› hB)) rfl (by omega)) rfl (ae (eY (u := .int .u64 ((X.h + s.h).toNat : Int)) ag rfl rfl rfl o11 (bP rfl)) ?_))
  rintro _ w40 ⟨o12, k39, z11⟩
  have z_k39 := k39.size
  replace o12 : Own w40 _ 47 1 o 8 [.int .u64 ((X.a + s.a).toNat : Int), .int .u64 ((X.b + s.b).toNat : Int), .int .u64 ((X.c + s.c).toNat : Int), .int .u64 ((X.d + s.d).toNat : Int), .int .u64 ((X.e + s.e).toNat : Int), .int .u64 ((X.f + s.f).toNat : Int), .int .u64 ((X.g + s.g).toNat : Int), .int .u64 ((X.h + s.h).toNat : Int)] := o12
  replace hB := hB.new k39 (fun x hx => .inl (go_o x hx))
  clear z_k39 z11
  refine a6 (a9 [(10, _), (15, _), (4, _), (1, _)] ⟨rfl, rfl, rfl, rfl, trivial⟩ (bZ (aZ (ogm rfl rfl (a7 (bC (j := 8) (ay rfl rfl) (by decide)) rfl (oga rfl rfl (a6 (cH (a5 (a5 (aZ (ogm rfl rfl (a7 (bd rfl rfl) rfl (a6 (ci rfl (by decide) (bF rfl (a5 (aZ (ogm rfl rfl (oga rfl rfl (a6 (bG hfin Tryz.results106 rfl ?_))))))))))))))))))))))
  have e : eT (blk cT Kl bs s) = [X.a + s.a, X.b + s.b, X.c + s.c, X.d + s.d, X.e + s.e, X.f + s.f, X.g + s.g, X.h + s.h] := by unfold blk; rw [show cT.R = 80 from rfl, show 80 - 16 = 64 from rfl, ← hX]; simp only [rE, eT]; rw [BitVec.add_comm s.a, BitVec.add_comm s.b, BitVec.add_comm s.c, BitVec.add_comm s.d, BitVec.add_comm s.e, BitVec.add_comm s.f, BitVec.add_comm s.g, BitVec.add_comm s.h]
  refine ⟨?_, hB⟩
  rw [e]; exact o12
theorem mw (w : World) : Rets Tryz.prog 104 [] w (fun v w' => OwnW w' w.heap.size v (KB Hl) ∧ Keep [] w w') := by
 have hB : Keep [] w w := Keep.refl _ _
 refine ac Tryz.func104 rfl (by decide) Tryz.ntmps104 rfl (fun fin _ hfin => a5 (aZ (oga rfl rfl (a6 (a5 (aZ (ad (dv (m := 8) (xs := [.const (.int .u64 (7640891576956012808)), .const (.int .u64 (13503953896175478587)), .const (.int .u64 (4354685564936845355)), .const (.int .u64 (11912009170470909681)), .const (.int .u64 (5840696475078001361)), .const (.int .u64 (11170449401992604703)), .const (.int .u64 (2270897969802886507)), .const (.int .u64 (6620516959819538809))]) (vs := [_, _, _, _, _, _, _, _]) aC ag (by decide) rfl rfl rfl (by simp only [List.forall_mem_cons]; exact ⟨rfl, rfl, rfl, rfl, rfl, rfl, rfl, rfl, fun v hv => by cases hv⟩) (by decide)) rfl ?_)))))))
 rintro v1 w1 ⟨o1, nn1, lb1, k1, z1⟩
 replace hB := hB.trans k1
 refine oga rfl rfl (a6 (bG hfin Tryz.results104 rfl ?_))
 refine ⟨?_, hB⟩
 have e : wc (KB Hl) = [.int .u64 7640891576956012808, .int .u64 13503953896175478587, .int .u64 4354685564936845355, .int .u64 11912009170470909681, .int .u64 5840696475078001361, .int .u64 11170449401992604703, .int .u64 2270897969802886507, .int .u64 6620516959819538809] := by kernel_rfl
 unfold OwnW
 rw [e]; exact o1
theorem jI (w : World) : Rets Tryz.prog 103 [] w (fun v w' => OwnW w' w.heap.size v (KB Kl) ∧ Keep [] w w') := by
 have hB : Keep [] w w := Keep.refl _ _
 refine ac Tryz.func103 rfl (by decide) Tryz.ntmps103 rfl (fun fin _ hfin => ?_)
 refine a5 (aZ (oga rfl rfl (a6 (a5 (aZ (ad (dv (m := 80) (xs := [.const (.int .u64 (4794697086780616226)), .const (.int .u64 (8158064640168781261)), .const (.int .u64 (13096744586834688815)), .const (.int .u64 (16840607885511220156)), .const (.int .u64 (4131703408338449720)), .const (.int .u64 (6480981068601479193)), .const (.int .u64 (10538285296894168987)), .const (.int .u64 (12329834152419229976)), .const (.int .u64 (15566598209576043074)), .const (.int .u64 (1334009975649890238)), .const (.int .u64 (2608012711638119052)), .const (.int .u64 (6128411473006802146)), .const (.int .u64 (8268148722764581231)), .const (.int .u64 (9286055187155687089)), .const (.int .u64 (11230858885718282805)), .const (.int .u64 (13951009754708518548)), .const (.int .u64 (16472876342353939154)), .const (.int .u64 (17275323862435702243)), .const (.int .u64 (1135362057144423861)), .const (.int .u64 (2597628984639134821)), .const (.int .u64 (3308224258029322869)), .const (.int .u64 (5365058923640841347)), .const (.int .u64 (6679025012923562964)), .const (.int .u64 (8573033837759648693)), .const (.int .u64 (10970295158949994411)), .const (.int .u64 (12119686244451234320)), .const (.int .u64 (12683024718118986047)), .const (.int .u64 (13788192230050041572)), .const (.int .u64 (14330467153632333762)), .const (.int .u64 (15395433587784984357)), .const (.int .u64 (489312712824947311)), .const (.int .u64 (1452737877330783856)), .const (.int .u64 (2861767655752347644)), .const (.int .u64 (3322285676063803686)), .const (.int .u64 (5560940570517711597)), .const (.int .u64 (5996557281743188959)), .const (.int .u64 (7280758554555802590)), .const (.int .u64 (8532644243296465576)), .const (.int .u64 (9350256976987008742)), .const (.int .u64 (10552545826968843579)), .const (.int .u64 (11727347734174303076)), .const (.int .u64 (12113106623233404929)), .const (.int .u64 (14000437183269869457)), .const (.int .u64 (14369950271660146224)), .const (.int .u64 (15101387698204529176)), .const (.int .u64 (15463397548674623760)), .const (.int .u64 (17586052441742319658)), .const (.int .u64 (1182934255886127544)), .const (.int .u64 (1847814050463011016)), .const (.int .u64 (2177327727835720531)), .const (.int .u64 (2830643537854262169)), .const (.int .u64 (3796741975233480872)), .const (.int .u64 (4115178125766777443)), .const (.int .u64 (5681478168544905931)), .const (.int .u64 (6601373596472566643)), .const (.int .u64 (7507060721942968483)), .const (.int .u64 (8399075790359081724)), .const (.int .u64 (8693463985226723168)), .const (.int .u64 (9568029438360202098)), .const (.int .u64 (10144078919501101548)), .const (.int .u64 (10430055236837252648)), .const (.int .u64 (11840083180663258601)), .const (.int .u64 (13761210420658862357)), .const (.int .u64 (14299343276471374635)), .const (.int .u64 (14566680578165727644)), .const (.int .u64 (15097957966210449927)), .const (.int .u64 (16922976911328602910)), .const (.int .u64 (17689382322260857208)), .const (.int .u64 (500013540394364858)), .const (.int .u64 (748580250866718886)), .const (.int .u64 (1242879168328830382)), .const (.int .u64 (1977374033974150939)), .const (.int .u64 (2944078676154940804)), .const (.int .u64 (3659926193048069267)), .const (.int .u64 (4368137639120453308)), .const (.int .u64 (4836135668995329356)), .const (.int .u64 (5532061633213252278)), .const (.int .u64 (6448918945643986474)), .const (.int .u64 (6902733635092675308)), .const (.int .u64 (7801388544844847127))]) (vs := [_, _, _, _, _, _, _, _, _, _, _, _, _, _, _, _, _, _, _, _, _, _, _, _, _, _, _, _, _, _, _, _, _, _, _, _, _, _, _, _, _, _, _, _, _, _, _, _, _, _, _, _, _, _, _, _, _, _, _, _, _, _, _, _, _, _, _, _, _, _, _, _, _, _, _, _, _, _, _, _]) aC ag (by decide) rfl rfl rfl (by simp only [List.forall_mem_cons]; exact ⟨rfl, rfl, rfl, rfl, rfl, rfl, rfl, rfl, rfl, rfl, rfl, rfl, rfl, rfl, rfl, rfl, rfl, rfl, rfl, rfl, rfl, rfl, rfl, rfl, rfl, rfl, rfl, rfl, rfl, rfl, rfl, rfl, rfl, rfl, rfl, rfl, rfl, rfl, rfl, rfl, rfl, rfl, rfl, rfl, rfl, rfl, rfl, rfl, rfl, rfl, rfl, rfl, rfl, rfl, rfl, rfl, rfl, rfl, rfl, rfl, rfl, rfl, rfl, rfl, rfl, rfl, rfl, rfl, rfl, rfl, rfl, rfl, rfl, rfl, rfl, rfl, rfl, rfl, rfl, rfl, fun v hv => by cases hv⟩) (by decide)) rfl ?_))))))
 rintro v1 w1 ⟨o1, nn1, lb1, k1, z1⟩
 replace hB := hB.trans k1
 refine oga rfl rfl (a6 (bG hfin Tryz.results103 rfl ?_))
 refine ⟨?_, hB⟩
 have e : wc (KB Kl) = [.int .u64 4794697086780616226, .int .u64 8158064640168781261, .int .u64 13096744586834688815, .int .u64 16840607885511220156, .int .u64 4131703408338449720, .int .u64 6480981068601479193, .int .u64 10538285296894168987, .int .u64 12329834152419229976, .int .u64 15566598209576043074, .int .u64 1334009975649890238, .int .u64 2608012711638119052, .int .u64 6128411473006802146, .int .u64 8268148722764581231, .int .u64 9286055187155687089, .int .u64 11230858885718282805, .int .u64 13951009754708518548, .int .u64 16472876342353939154, .int .u64 17275323862435702243, .int .u64 1135362057144423861, .int .u64 2597628984639134821, .int .u64 3308224258029322869, .int .u64 5365058923640841347, .int .u64 6679025012923562964, .int .u64 8573033837759648693, .int .u64 10970295158949994411, .int .u64 12119686244451234320, .int .u64 12683024718118986047, .int .u64 13788192230050041572, .int .u64 14330467153632333762, .int .u64 15395433587784984357, .int .u64 489312712824947311, .int .u64 1452737877330783856, .int .u64 2861767655752347644, .int .u64 3322285676063803686, .int .u64 5560940570517711597, .int .u64 5996557281743188959, .int .u64 7280758554555802590, .int .u64 8532644243296465576, .int .u64 9350256976987008742, .int .u64 10552545826968843579, .int .u64 11727347734174303076, .int .u64 12113106623233404929, .int .u64 14000437183269869457, .int .u64 14369950271660146224, .int .u64 15101387698204529176, .int .u64 15463397548674623760, .int .u64 17586052441742319658, .int .u64 1182934255886127544, .int .u64 1847814050463011016, .int .u64 2177327727835720531, .int .u64 2830643537854262169, .int .u64 3796741975233480872, .int .u64 4115178125766777443, .int .u64 5681478168544905931, .int .u64 6601373596472566643, .int .u64 7507060721942968483, .int .u64 8399075790359081724, .int .u64 8693463985226723168, .int .u64 9568029438360202098, .int .u64 10144078919501101548, .int .u64 10430055236837252648, .int .u64 11840083180663258601, .int .u64 13761210420658862357, .int .u64 14299343276471374635, .int .u64 14566680578165727644, .int .u64 15097957966210449927, .int .u64 16922976911328602910, .int .u64 17689382322260857208, .int .u64 500013540394364858, .int .u64 748580250866718886, .int .u64 1242879168328830382, .int .u64 1977374033974150939, .int .u64 2944078676154940804, .int .u64 3659926193048069267, .int .u64 4368137639120453308, .int .u64 4836135668995329356, .int .u64 5532061633213252278, .int .u64 6448918945643986474, .int .u64 6902733635092675308, .int .u64 7801388544844847127] := by kernel_rfl
 unfold OwnW
 rw [e]; exact o1
theorem mu (w : World) : Rets Tryz.prog 83 [] w (fun v w' => ∃ l0 l1 u0 u1, v = .agg [.int .i64 64, .int .i64 128, .int .i64 80, l0, l1, u0, u1].toArray ∧ Rd w' 1 l0 3 [.int .i64 1, .int .i64 8, .int .i64 7] ∧ Rd w' 1 l1 3 [.int .i64 19, .int .i64 61, .int .i64 6] ∧ Rd w' 1 u0 3 [.int .i64 28, .int .i64 34, .int .i64 39] ∧ Rd w' 1 u1 3 [.int .i64 14, .int .i64 18, .int .i64 41] ∧ Keep [] w w') := by
 have hB : Keep [] w w := Keep.refl _ _
 refine ac Tryz.func83 rfl (by decide) Tryz.ntmps83 rfl (fun fin _ hfin => a5 (aZ (ad (aj cz) rfl ?_)))
 rintro _ w1 ⟨b1, rfl, eb1, hb1, k1, z1⟩
 have ge_b1 : w.heap.size ≤ b1 := by have := hB.size; omega
 replace hB := hB.trans k1
 clear eb1 z1
 refine a6 (a5 (aZ (ad (dv (m := 3) (xs := [.const (.int .i64 (1)), .const (.int .i64 (8)), .const (.int .i64 (7))]) (vs := [_, _, _]) aI cU (by decide) rfl rfl rfl (by simp only [List.forall_mem_cons]; exact ⟨rfl, rfl, rfl, fun v hv => by cases hv⟩) (by decide)) rfl ?_)))
 rintro v1 w2 ⟨o1, nn1, lb1, k2, z2⟩
 have sb_b1_o1 := fun x hx => (show x ≠ b1 from by have h1 := (o1.blk x hx).1; have h2 := hb1.lt; omega)
 obtain ⟨hB, hb1⟩ := bN k2 hB hb1
 refine ad (dv (m := 3) (xs := [.const (.int .i64 (19)), .const (.int .i64 (61)), .const (.int .i64 (6))]) (vs := [_, _, _]) aI cU (by decide) rfl rfl rfl (by simp only [List.forall_mem_cons]; exact ⟨rfl, rfl, rfl, fun v hv => by cases hv⟩) (by decide)) rfl ?_
 rintro v2 w3 ⟨o2, nn2, lb2, k3, z3⟩
 have sb_b1_o2 := fun x hx => (show x ≠ b1 from by have h1 := (o2.blk x hx).1; have h2 := hb1.lt; omega)
 replace hb1 := hb1.s8 k3
 replace o1 := o1.s8 k3
 replace hB := hB.trans k3
 refine ad (dv (m := 3) (xs := [.const (.int .i64 (28)), .const (.int .i64 (34)), .const (.int .i64 (39))]) (vs := [_, _, _]) aI cU (by decide) rfl rfl rfl (by simp only [List.forall_mem_cons]; exact ⟨rfl, rfl, rfl, fun v hv => by cases hv⟩) (by decide)) rfl ?_
 rintro v3 w4 ⟨o3, nn3, lb3, k4, z4⟩
 have sb_b1_o3 := fun x hx => (show x ≠ b1 from by have h1 := (o3.blk x hx).1; have h2 := hb1.lt; omega)
 replace hb1 := hb1.s8 k4
 replace o1 := o1.s8 k4
 replace o2 := o2.s8 k4
 replace hB := hB.trans k4
 refine ad (dv (m := 3) (xs := [.const (.int .i64 (14)), .const (.int .i64 (18)), .const (.int .i64 (41))]) (vs := [_, _, _]) aI cU (by decide) rfl rfl rfl (by simp only [List.forall_mem_cons]; exact ⟨rfl, rfl, rfl, fun v hv => by cases hv⟩) (by decide)) rfl ?_
 rintro v4 w5 ⟨o4, nn4, lb4, k5, z5⟩
 have sb_b1_o4 := fun x hx => (show x ≠ b1 from by have h1 := (o4.blk x hx).1; have h2 := hb1.lt; omega)
 replace hb1 := hb1.s8 k5
 replace o1 := o1.s8 k5
 replace o2 := o2.s8 k5
 replace o3 := o3.s8 k5
 replace hB := hB.trans k5
 refine a7 (dR (idx := [0, 1, 2, 3, 4, 5, 6]) (xs := [.const (.int .i64 64), .const (.int .i64 128), .const (.int .i64 80), .tmp 1, .tmp 2, .tmp 3, .tmp 4]) (vs := [_, _, _, _, _, _, _]) (css := [[_], [_], [_], [_], [_], [_], [_]]) (out := [.int .i64 64, .int .i64 128, .int .i64 80, v1, v2, v3, v4]) pl116 cz rfl rfl ⟨rfl, rfl, rfl, Rd.cells (Own.rd o1), Rd.cells (Own.rd o2), Rd.cells (Own.rd o3), Rd.cells (Own.rd o4), trivial⟩ rfl rfl) rfl (ae (bB cz rfl rfl rfl (by simp only [List.forall_mem_cons]; exact ⟨rfl, rfl, rfl, o1.rd.one, o2.rd.one, o3.rd.one, o4.rd.one, fun v hv => by cases hv⟩) hb1 rfl) ?_)
 rintro _ w6 ⟨hb2, k6, z6⟩
 replace o1 := o1.keep k6 (fun x hx hm => sb_b1_o1 x hx (List.mem_singleton.1 hm))
 replace o2 := o2.keep k6 (fun x hx hm => sb_b1_o2 x hx (List.mem_singleton.1 hm))
 replace o3 := o3.keep k6 (fun x hx hm => sb_b1_o3 x hx (List.mem_singleton.1 hm))
 replace o4 := o4.keep k6 (fun x hx hm => sb_b1_o4 x hx (List.mem_singleton.1 hm))
 replace hB := hB.new k6 (nw ge_b1)
 clear z6
 replace hb2 : Bk w6 b1 _ [.int .i64 64, .int .i64 128, .int .i64 80, v1, v2, v3, v4] := hb2
 refine a6 (ba hfin Tryz.results83 rfl (ak dU cz hb2 rfl)  ?_)
 exact ⟨_, _, _, _, rfl, o1.rd, o2.rd, o3.rd, o4.rd, hB⟩
theorem nG (l0 l1 u0 u1 : Value) (v : Value) (xs : List UInt8) (w : World) (hv : RdB w v xs) (hx : xs.length ≤ 140737488354000) : Rets Tryz.prog 105 [.agg [.int .i64 64, .int .i64 128, .int .i64 80, l0, l1, u0, u1].toArray, v] w (fun r w' => OwnB w' w.heap.size r (pad 64 xs) ∧ Keep [] w w') := by
 have hB : Keep [] w w := Keep.refl _ _
 have hz := ij (n := 64) (len := xs.length) (by decide) (by decide)
 refine ac Tryz.func105 rfl (by decide) Tryz.ntmps105 rfl (fun fin _ hfin => a5 (aZ (ad (bc (cs := [.int .i64 64, .int .i64 128, .int .i64 80, l0, l1, u0, u1]) rfl rfl) rfl ?_)))
 rintro _ w1 ⟨b1, rfl, eb1, hb1, k1, z1⟩
 replace hB := hB.trans k1
 clear eb1 z1
 refine oga rfl rfl (a6 (a5 (aZ (ad (dv (m := 0) (xs := []) (vs := []) aA cg (by decide) rfl rfl rfl (by first | (simp; done) | (intro v hv; rw [List.mem_singleton] at hv; subst hv; rfl)) (by decide)) rfl ?_))))
 rintro v1 w2 ⟨o1, nn1, lb1, k2, z2⟩
 have gl_o1 := hB.size
 have sb_b1_o1 := fun x hx => (show x ≠ b1 from by have h1 := (o1.blk x hx).1; have h2 := hb1.lt; omega)
 obtain ⟨hB, hb1⟩ := bN k2 hB hb1
 replace o1 : Own w2 _ _ 1 v1 0 (bv []) := o1
 refine ogm rfl rfl ?_
 replace o1 := o1.lo gl_o1
 have lt_b1_o2 := hb1.lt
 refine ad (dn (xs := []) (ys := xs) aA cg rfl (show Own _ _ _ 1 _ 0 (bv []) from o1) rfl (hv.s8 hB) (by omega) (by have := hB.size; omega)) rfl ?_
 rintro v2 w3 ⟨o2, k3, lb2, _⟩
 replace hB := hB.new k3 (fun x hx => .inl (o1.blk x hx).1)
 replace hb1 := hb1.keep k3 (fun hm => sb_b1_o1 _ hm rfl)
 have sb_b1_o2 := fun x hx => (lb2 x hx).elim (sb_b1_o1 x) (fun h => (show x ≠ b1 from by omega))
 replace o2 : OwnB w3 w.heap.size v2 xs := by unfold OwnB; simpa using o2
 refine ad (dv (m := 1) (xs := [.const (.int .u8 (128))]) (vs := [_]) aA cg (by decide) rfl rfl rfl (by first | (simp; done) | (intro v hv; rw [List.mem_singleton] at hv; subst hv; rfl)) (by decide)) rfl ?_
 rintro v3 w4 ⟨o3, nn2, lb3, k4, z3⟩
 replace hb1 := hb1.s8 k4
 replace o2 := o2.s8 k4
 replace hB := hB.trans k4
 replace o3 : Own w4 _ _ 1 v3 1 (bv [128]) := o3
 have lt_b1_o4 := hb1.lt
 refine ad (dn (xs := xs) (ys := [128]) aA cg rfl (show OwnB _ _ _ _ from o2) rfl (show RdB _ _ _ from o3.rd) (by simp only [List.length_singleton]; omega) (by have := hB.size; omega)) rfl ?_
 rintro v4 w5 ⟨o4, k5, lb4, _⟩
 replace hB := hB.new k5 (fun x hx => .inl (o2.blk x hx).1)
 replace hb1 := hb1.keep k5 (fun hm => sb_b1_o2 _ hm rfl)
 have sb_b1_o4 := fun x hx => (lb4 x hx).elim (sb_b1_o2 x) (fun h => (show x ≠ b1 from by omega))
 replace o4 : OwnB w5 w.heap.size v4 ((xs ++ 128 :: List.replicate 0 0)) := by unfold OwnB; rw [List.replicate_zero, List.length_append]; exact o4
 refine oga rfl rfl (a6 (a5 (ab (bK (Γ := Nat × Value) (fun ⟨j, o⟩ => [(1, v), (2, .pointer (some ⟨b1, 0, none⟩)), (5, o)]) (fun ⟨j, o⟩ W => j ≤ zs 64 xs.length ∧ OwnB W w.heap.size o (xs ++ 128 :: List.replicate j 0) ∧ (∀ x, x ∈ vblk o → x ≠ b1) ∧ Bk W b1 116 [.int .i64 64, .int .i64 128, .int .i64 80, l0, l1, u0, u1] ∧ Keep [] w W) (fun ⟨j, o⟩ => zs 64 xs.length - j) ⟨0, v4⟩ ⟨rfl, rfl, rfl, trivial⟩ (⟨by omega, o4, sb_b1_o4, hb1, hB⟩) ?_))))
 rintro ⟨j, o⟩ w6 ⟨hj0, ow, hno, hbz, hB⟩
 refine a9 [(1, v), (2, .pointer (some ⟨b1, 0, none⟩)), (5, o)] ⟨rfl, rfl, rfl, trivial⟩ ?_
 have hlo : (xs ++ 128 :: List.replicate j 0).length = xs.length + 1 + j := by rw [List.length_append, List.length_cons, List.length_replicate]; omega
 refine a5 (a5 (aZ (ogm rfl rfl (a7 (cN (v' := .int .i64 ((xs.length + 1 + j : Nat) : Int)) (cB aA rfl ow.rd) (by rw [hlo])) rfl (a7 (ax 1 aO rfl cU (by decide) rfl rfl) rfl (a7 (ah dc rfl hbz rfl) rfl (a7 (bC (j := 16) (es rfl rfl (by decide)) (by decide)) rfl (a7 (bi rfl rfl (by omega)) rfl (a7 (ax 1 aO rfl cU (by decide) rfl rfl) rfl (a7 (ah dc rfl hbz rfl) rfl (a7 (fQ rfl rfl (by omega)) rfl (a7 (dt rfl rfl) rfl ?_))))))))))))
 refine a6 (bT rfl (fun hc1 => ?_) (fun hc1 => ?_))
 ·
  refine af (ab (aZ (ogm rfl rfl (ad (dv (m := 1) (xs := [.const (.int .u8 (0))]) (vs := [_]) aA cg (by decide) rfl rfl rfl (by first | (simp; done) | (intro v hv; rw [List.mem_singleton] at hv; subst hv; rfl)) (by decide)) rfl ?_))))
  rintro v5 w7 ⟨o5, nn3, lb5, k6, z4⟩
  replace ow := ow.s8 k6
  obtain ⟨hB, hbz⟩ := bN k6 hB hbz
  replace o5 : Own w7 _ _ 1 v5 1 (bv [0]) := o5
  have lt_b1_o6 := hbz.lt
  refine ad (dn (xs := (xs ++ 128 :: List.replicate j 0)) (ys := [0]) aA cg rfl (show OwnB _ _ _ _ from ow) rfl (show RdB _ _ _ from o5.rd) (by rw [hlo]; simp only [List.length_singleton]; omega) (by have := hB.size; omega)) rfl ?_
  rintro v6 w8 ⟨o6, k7, lb6, _⟩
  replace hB := hB.new k7 (fun x hx => .inl (ow.blk x hx).1)
  replace hbz := hbz.keep k7 (fun hm => hno _ hm rfl)
  have sb_b1_o6 := fun x hx => (lb6 x hx).elim (hno x) (fun h => (show x ≠ b1 from by omega))
  replace o6 : OwnB w8 w.heap.size v6 ((xs ++ 128 :: List.replicate (j + 1) 0)) := by unfold OwnB; rw [zstep, List.length_append]; exact o6
  refine oga rfl rfl (a6 (a9 [(1, _), (2, _), (5, _)] ⟨rfl, rfl, rfl, trivial⟩ (bZ (bM (Γ := Nat × Value) ⟨j + 1, v6⟩ ⟨rfl, rfl, rfl, trivial⟩ (by (try dsimp only); omega) (⟨by omega, o6, sb_b1_o6, hbz, hB⟩)))))
 ·
  refine bF rfl (a5 (aZ (ogm rfl rfl (a7 (cB aA rfl (by first | assumption | exact Own.rd ‹_› | exact Rd.s8 ‹_› hB | exact Own.rd (Own.s8 ‹_› hB))) rfl ?_))))
  obtain rfl : j = zs 64 xs.length := by omega
  refine a7 (cN (v' := .int .u64 (xs.length : Int)) (eb (by rw [aJ]; rfl) aN rfl) (by rw [fX, Int.emod_eq_of_lt (by omega) (by omega)])) rfl (a7 (cN (v' := .int .u64 (8 * (xs.length : Int))) (dZ rfl rfl) (by rw [fX, Int.emod_eq_of_lt (by omega) (by omega), Int.mul_comm])) rfl (oga rfl rfl (a6 (a9 [(2, _), (5, _), (6, _)] ⟨rfl, rfl, rfl, trivial⟩ (a5 (a5 (aZ (a7 (ax 1 aO rfl cU (by decide) rfl rfl) rfl (a7 (ah dc rfl hbz rfl) rfl (a7 (bC (j := 16) (es rfl rfl (by decide)) (by decide)) rfl (a7 (bC (j := 15) (cY rfl rfl) (by decide)) rfl (oga rfl rfl (a6 (ab ?_))))))))))))))
  obtain ⟨pz, hpz⟩ : ∃ pz, pz = (xs ++ 128 :: List.replicate (zs 64 xs.length) 0) := ⟨_, rfl⟩
  have hlz : pz.length = xs.length + 1 + zs 64 xs.length := by rw [hpz]; exact hlo
  rw [← hpz] at ow
  refine bK (Γ := Nat × Value) (fun ⟨j, u⟩ => [(5, u), (6, .int .u64 (8 * (xs.length : Int))), (7, .int .i64 (15 - (j : Int)))]) (fun ⟨j, u⟩ W => j ≤ 16 ∧ OwnB W w.heap.size u (pz ++ (List.replicate 8 0 ++ be (8 * (xs.length : Int)) 8).take j) ∧ Keep [] w W) (fun ⟨j, u⟩ => 16 - j) ⟨0, _⟩ ⟨rfl, rfl, rfl, trivial⟩ (⟨by omega, by rw [List.take_zero, List.append_nil]; exact ow, hB⟩) ?_
  rintro ⟨j, u⟩ w9 ⟨hj0, ow, hB⟩
  refine a9 [(5, u), (6, .int .u64 (8 * (xs.length : Int))), (7, .int .i64 (15 - (j : Int)))] ⟨rfl, rfl, rfl, trivial⟩ ?_
  have hlj : (pz ++ (List.replicate 8 0 ++ be (8 * (xs.length : Int)) 8).take j).length = xs.length + 1 + zs 64 xs.length + j := by rw [List.length_append, hlz, List.length_take, List.length_append, List.length_replicate, dI]; omega
  refine a5 (a5 (aZ (ogm rfl rfl (a7 (ii rfl rfl) rfl (a6 (bT rfl (fun hc2 => ?_) (fun hc2 => ?_)))))))
  ·
   refine af (a5 (ab (a5 (aZ (ogm rfl rfl (a7 (ii rfl rfl) rfl (a6 (bT rfl (fun hc3 => ?_) (fun hc3 => ?_)))))))))
   ·
    refine aZ (ogm rfl rfl (ad (dv (m := 1) (xs := [.const (.int .u8 (0))]) (vs := [_]) aA cg (by decide) rfl rfl rfl (by first | (simp; done) | (intro v hv; rw [List.mem_singleton] at hv; subst hv; rfl)) (by decide)) rfl ?_))
    rintro v7 w10 ⟨o7, nn4, lb7, k8, z5⟩
    replace ow := ow.s8 k8
    replace hB := hB.trans k8
    replace o7 : Own w10 _ _ 1 v7 1 (bv [0]) := o7
    have e1 : (List.replicate 8 0 ++ be (8 * (xs.length : Int)) 8).take (j + 1) = (List.replicate 8 0 ++ be (8 * (xs.length : Int)) 8).take j ++ [0] := eA (by rw [List.getElem?_append_left (by rw [List.length_replicate]; omega), List.getElem?_replicate, if_pos (by omega)])
    refine ad (dn (xs := (pz ++ (List.replicate 8 0 ++ be (8 * (xs.length : Int)) 8).take j)) (ys := [0]) aA cg rfl (show OwnB _ _ _ _ from ow) rfl (show RdB _ _ _ from o7.rd) (by rw [hlj]; simp only [List.length_singleton]; omega) (by have := hB.size; omega)) rfl ?_
    rintro v8 w11 ⟨o8, k9, lb8, _⟩
    replace hB := hB.new k9 (fun x hx => .inl (ow.blk x hx).1)
    replace o8 : OwnB w11 w.heap.size v8 (pz ++ (List.replicate 8 0 ++ be (8 * (xs.length : Int)) 8).take (j + 1)) := by unfold OwnB; rw [e1, ← List.append_assoc, List.length_append]; exact o8
    refine oga rfl rfl (a6 (bZ (aZ (ogm rfl rfl (a7 (cN (v' := .int .i64 (15 - ((j + 1 : Nat) : Int))) (cj rfl rfl (by omega)) (by congr 1; omega)) rfl (oga rfl rfl (a6 (bM (Γ := Nat × Value) ⟨j + 1, v8⟩ ⟨rfl, rfl, rfl, trivial⟩ (by (try dsimp only); omega) (⟨by omega, o8, hB⟩)))))))))
   ·
    refine aZ (ogm rfl rfl (ogm rfl rfl (ogm rfl rfl (a7 (fR rfl rfl (by omega)) rfl (a7 (kJ (by rw [aJ]; rfl) aS rfl (by omega)) rfl (a7 (fC rfl rfl ⟨by omega, (show _ ≤ ((64 : Nat) : Int) from by omega)⟩) rfl (a7 (eb (by rw [aN]; rfl) aH rfl) rfl (ad (dv (m := 1) (xs := [.tmp 49]) (vs := [_]) aA cg (by decide) rfl rfl rfl (by first | (simp; done) | (intro v hv; rw [List.mem_singleton] at hv; subst hv; rfl)) (by decide)) rfl ?_))))))))
    rintro v9 w12 ⟨o9, nn5, lb9, k10, z6⟩
    replace ow := ow.s8 k10
    replace hB := hB.trans k10
    have hby : IntKind.u8.wrap ((8 * (xs.length : Int)) / 2 ^ (8 * (15 - (j : Int))).toNat) = ((byteAt (8 * (xs.length : Int)) (7 - (j - 8))).toNat : Int) := by rw [el, IntKind.wrap_u8]; congr 3; omega
    replace o9 := gx o9 hby
    have e1 : (List.replicate 8 0 ++ be (8 * (xs.length : Int)) 8).take (j + 1) = (List.replicate 8 0 ++ be (8 * (xs.length : Int)) 8).take j ++ [byteAt (8 * (xs.length : Int)) (7 - (j - 8))] := eA (by rw [List.getElem?_append_right (by rw [List.length_replicate]; omega), List.length_replicate]; simp only [be, List.getElem?_map]; rw [List.getElem?_range (by omega)]; rfl)
    refine ad (dn (xs := (pz ++ (List.replicate 8 0 ++ be (8 * (xs.length : Int)) 8).take j)) (ys := [byteAt (8 * (xs.length : Int)) (7 - (j - 8))]) aA cg rfl (show OwnB _ _ _ _ from ow) rfl (show RdB _ _ _ from o9.rd) (by rw [hlj]; simp only [List.length_singleton]; omega) (by have := hB.size; omega)) rfl ?_
    rintro v10 w13 ⟨o10, k11, lb10, _⟩
    replace hB := hB.new k11 (fun x hx => .inl (ow.blk x hx).1)
    replace o10 : OwnB w13 w.heap.size v10 (pz ++ (List.replicate 8 0 ++ be (8 * (xs.length : Int)) 8).take (j + 1)) := by unfold OwnB; rw [e1, ← List.append_assoc, List.length_append]; exact o10
    refine oga rfl rfl (a6 (a9 [(5, _), (6, _), (7, _)] ⟨rfl, rfl, rfl, trivial⟩ (bZ (aZ (ogm rfl rfl (a7 (cN (v' := .int .i64 (15 - ((j + 1 : Nat) : Int))) (cj rfl rfl (by omega)) (by congr 1; omega)) rfl (oga rfl rfl (a6 (bM (Γ := Nat × Value) ⟨j + 1, v10⟩ ⟨rfl, rfl, rfl, trivial⟩ (by (try dsimp only); omega) (⟨by omega, o10, hB⟩))))))))))
  ·
   refine bF rfl (a5 (aZ (ogm rfl rfl (oga rfl rfl (a6 (bG hfin Tryz.results105 rfl ?_))))))
   obtain rfl : j = 16 := by omega
   have e : pad 64 xs = pz ++ (List.replicate 8 0 ++ be (8 * (xs.length : Int)) 8).take 16 := by rw [hpz, rH, List.take_of_length_le (by rw [List.length_append, List.length_replicate, dI]; decide), List.append_assoc]
   refine ⟨?_, hB⟩
   rw [e]; exact ow
theorem pq (X : S8 64) (i : Nat) : (((eT X).take i).flatMap fun x => be (x.toNat : Int) 8).length ≤ 64 := by
  have h : ∀ l : List (BitVec 64), (l.flatMap fun x => be (x.toNat : Int) 8).length = 8 * l.length := by
    intro l
    induction l with
    | nil => rfl
    | cons x r ih => rw [List.flatMap_cons, List.length_append, ih, dI, List.length_cons]; omega
  rw [h, List.length_take]; have : (eT X).length = 8 := rfl; omega
theorem ql (l0 l1 u0 u1 : Value) (v : Value) (xs : List UInt8) (w : World) (hl0 : Rd w 1 l0 3 [.int .i64 1, .int .i64 8, .int .i64 7]) (hl1 : Rd w 1 l1 3 [.int .i64 19, .int .i64 61, .int .i64 6]) (hu0 : Rd w 1 u0 3 [.int .i64 28, .int .i64 34, .int .i64 39]) (hu1 : Rd w 1 u1 3 [.int .i64 14, .int .i64 18, .int .i64 41]) (hv : RdB w v xs) (hx : xs.length ≤ 140737488354000) : Rets Tryz.prog 84 [.agg [.int .i64 64, .int .i64 128, .int .i64 80, l0, l1, u0, u1].toArray, v] w (fun r w' => OwnB w' w.heap.size r (Sha.sum cT Kl Hl xs) ∧ Keep [] w w') := by
  have hB : Keep [] w w := Keep.refl _ _
  have hhl : (KB Hl).length = 8 := rfl
  refine ac Tryz.func84 rfl (by decide) Tryz.ntmps84 rfl (fun fin _ hfin => a5 (aZ (ad (bc (cs := [.int .i64 64, .int .i64 128, .int .i64 80, l0, l1, u0, u1]) rfl rfl) rfl ?_)))
  rintro _ w1 ⟨b1, rfl, eb1, hb1, k1, z1⟩
  replace hB := hB.trans k1
  clear eb1 z1
  refine oga rfl rfl (a6 (a5 (aZ (ad (a8 (vs := []) rfl (jI _)) rfl ?_))))
  rintro v1 w2 ⟨o1, k2⟩
  have gl_o1 := hB.size
  obtain ⟨hB, hb1⟩ := bN k2 hB hb1
  refine oga rfl rfl (a6 (a5 (aZ (ad (a8 (vs := []) rfl (mw _)) rfl ?_))))
  rintro v2 w3 ⟨o2, k3⟩
  have gl_o2 := hB.size
  replace hb1 := hb1.s8 k3
  replace o1 := o1.s8 k3
  replace hB := hB.trans k3
  refine oga rfl rfl (a6 (a5 (aZ (oga rfl rfl (a6 (a5 (a5 (aZ ?_))))))))
  refine oga rfl rfl (a6 (ab ?_))
  obtain ⟨Z, hZ⟩ : ∃ Z, Z = w3.heap.size := ⟨_, rfl⟩
  have zb : b1 < Z := by have := hb1.lt; omega
  have zo_oK : ∀ x, x ∈ vblk v1 → x < Z := fun x hx => by have := (o1.blk x hx).2; omega
  have zo_oH : ∀ x, x ∈ vblk v2 → x < Z := fun x hx => by have := (o2.blk x hx).2; omega
  have zw : w.heap.size ≤ Z := by have := hB.size; omega
  have oK := o1.lo gl_o1; have oH := o2.lo gl_o2
  refine bK (Γ := Nat × Value) (fun ⟨i, o⟩ => [(1, v), (2, .pointer (some ⟨b1, 0, none⟩)), (5, v1), (6, v2), (7, o), (8, .int .i64 (i : Int))]) (fun ⟨i, o⟩ W => i ≤ 8 ∧ OwnW W Z o ((List.range i).map (cst 64 Hl)) ∧ OwnW W w.heap.size v1 (KB Kl) ∧ OwnW W w.heap.size v2 (KB Hl) ∧ Bk W b1 116 [.int .i64 64, .int .i64 128, .int .i64 80, l0, l1, u0, u1] ∧ Z ≤ W.heap.size ∧ Keep [] w W) (fun ⟨i, o⟩ => 8 - i) ⟨0, .slice none 0 0⟩ ⟨rfl, rfl, rfl, rfl, rfl, rfl, trivial⟩ (⟨by omega, dM _ _ _ _, oK, oH, hb1, by omega, hB⟩) ?_
  rintro ⟨i, o⟩ w4 ⟨hi0, ow, oK, oH, hbz, hZs, hB⟩
  refine a9 [(1, v), (2, .pointer (some ⟨b1, 0, none⟩)), (5, v1), (6, v2), (7, o), (8, .int .i64 (i : Int))] ⟨rfl, rfl, rfl, rfl, rfl, rfl, trivial⟩ ?_
  have hwl : ((List.range i).map (cst 64 Hl)).length = i := by simp
  refine a5 (a5 (aZ (ogm rfl rfl (a7 (bd rfl rfl) rfl (a6 (bT rfl (fun hc1 => ?_) (fun hc1 => ?_)))))))
  · -- yes
    refine af (a5 (ab (bW 11 [0, 1, 2, 3, 4, 5, 6, 7, 8, 9, 10] [10] [] [] mixed [(7, _), (6, _), (8, _), (2, _), (1, _), (5, _)] ⟨rfl, rfl, rfl, rfl, rfl, rfl, trivial⟩ (by decide +kernel) (by decide) (by decide) ?_ (fun x hx => by cases hx) rfl (fun w5 k4 => ?_))))
    · intro q hq; cases hq
    replace ow := ow.s8 k4
    replace oK := oK.s8 k4
    replace oH := oH.s8 k4
    obtain ⟨hB, hbz⟩ := bN k4 hB hbz
    refine bu 7 rfl rfl rfl rfl rfl (bu 6 rfl rfl rfl rfl rfl (bu 8 rfl rfl rfl rfl rfl (cn 21 22 rfl rfl rfl rfl rfl (fun W' kk => bk aC ag rfl (Rd.s8 oH.rd kk) rfl (by omega)) (al 23 rfl rfl rfl rfl (fun W' kk => cq (l := (KB Hl)) i au rfl (Rd.s8 oH.rd kk) rfl (by omega)) (al 2 rfl rfl rfl rfl (fun W' kk => ax 0 aO rfl cU (by decide) rfl rfl) (al 25 rfl rfl rfl rfl (fun W' kk => ah dc rfl (Bk.s8 hbz kk) rfl) (al 26 rfl rfl rfl rfl (fun W' kk => bC (j := 0) (cY rfl rfl) (by decide)) (al 27 rfl rfl rfl rfl (fun W' kk => bC (j := 0) (eb (by rw [aJ]; rfl) aS rfl) (by decide)) ?_))))))))
    refine cn 24 28 rfl rfl rfl rfl rfl (fun W' kk => eJ 0 rfl rfl rfl (by decide)) (bo [(29, _)] rfl rfl ⟨rfl, trivial⟩ rfl (fun w7 k6 => ?_))
    replace ow := ow.s8 k6
    replace oK := oK.s8 k6
    replace oH := oH.s8 k6
    obtain ⟨hB, hbz⟩ := bN k6 hB hbz
    refine (dv (m := 1) (xs := [.tmp 29]) (vs := [_]) aC ag (by decide) rfl rfl rfl (by first | (simp; done) | (intro v hv; rw [List.mem_singleton] at hv; subst hv; rfl)) (by decide)).mono ?_
    rintro v3 w6 ⟨o3, nn1, lb1, k5, z2⟩
    refine ⟨k5, (fun x hx => ⟨.inr (o3.blk x (o3.rd.cblk ▸ hx)).1, (o3.blk x (o3.rd.cblk ▸ hx)).2⟩), ?_⟩
    replace ow := ow.s8 k5
    replace oK := oK.s8 k5
    replace oH := oH.s8 k5
    obtain ⟨hB, hbz⟩ := bN k5 hB hbz
    refine cC (fun w8 k7 => ?_)
    replace ow := ow.s8 k7
    replace oK := oK.s8 k7
    replace oH := oH.s8 k7
    replace hbz := hbz.s8 k7
    replace o3 := o3.s8 k7
    replace hB := hB.trans k7
    refine bX ?_
    have zk4 := k4.size
    have zk5 := k5.size
    have zk6 := k6.size
    have zk7 := k7.size
    refine ad (lK (ys := [cst 64 Hl i]) aC ag rfl rfl ow rfl (show RdW _ _ _ from by rw [← gH]; exact o3.rd) (by simp only [List.length_singleton] at *; omega) (by omega)) rfl ?_
    rintro v4 w9 ⟨o4, k8, lb2⟩
    replace hB := hB.new k8 (fun x hx => .inl (by have h1 := (ow.blk x hx).1; omega))
    replace hZs : Z ≤ w9.heap.size := by have h9 := k8.size; omega
    replace oK := oK.keep k8 (fun x hx hm => by have h1 := (ow.blk x hm).1; have h2 := zo_oK x hx; omega)
    replace oH := oH.keep k8 (fun x hx hm => by have h1 := (ow.blk x hm).1; have h2 := zo_oH x hx; omega)
    replace hbz := hbz.keep k8 (fun hm => by have h1 := (ow.blk _ hm).1; omega)
    replace o4 : OwnW w9 Z v4 (((List.range i).map (cst 64 Hl)) ++ [cst 64 Hl i]) := by unfold OwnW; rw [List.length_append]; exact o4
    refine oga rfl rfl (a6 (a9 [(7, _), (6, _), (8, _), (2, _), (1, _), (5, _)] ⟨rfl, rfl, rfl, rfl, rfl, rfl, trivial⟩ (bZ (aZ (ogm rfl rfl (a7 (bi rfl rfl (by omega)) rfl (oga rfl rfl (a6 ?_))))))))
    refine bM (Γ := Nat × Value) ⟨i + 1, v4⟩ ⟨rfl, rfl, rfl, rfl, rfl, rfl, trivial⟩ (by (try dsimp only); omega) (⟨by omega, by rw [List.range_succ, List.map_append]; exact o4, oK, oH, hbz, hZs, hB⟩)
  · -- no
    refine bF rfl (a5 (aZ (a7 (aa (cs' := [_, _, _, _, _, _, _]) dU cz rfl hbz rfl rfl) rfl (ogm rfl rfl (ad (a8 (vs := [_, _]) rfl (nG _ _ _ _ _ xs _ (hv.s8 hB) hx)) rfl ?_)))))
    rintro v5 w10 ⟨o5, k9⟩
    have gl_o5 := hB.size
    replace ow := ow.s8 k9
    replace oK := oK.s8 k9
    replace oH := oH.s8 k9
    obtain ⟨hB, hbz⟩ := bN k9 hB hbz
    refine oga rfl rfl (a6 (a5 (a5 (aZ (oga rfl rfl (a6 (ab ?_)))))))
    obtain rfl : i = 8 := by omega
    have hPM := jO xs; have hPL := rG xs
    obtain ⟨M, hM⟩ : ∃ M, M = ((pad 64 xs).length / (2 * 64)) := ⟨_, rfl⟩
    rw [← hM] at hPM
    have oP := o5.lo gl_o5
    refine bK (Γ := Nat × S8 64 × Value) (fun ⟨m, X, o⟩ => [(2, .pointer (some ⟨b1, 0, none⟩)), (5, v1), (7, o), (9, v5), (10, .int .i64 (128 * (m : Int)))]) (fun ⟨m, X, o⟩ W => m ≤ M ∧ blks cT Kl (M - m) ((pad 64 xs).drop (128 * m)) X = blks cT Kl M (pad 64 xs) (st8 64 Hl) ∧ OwnW W w.heap.size o (eT X) ∧ OwnW W w.heap.size v1 (KB Kl) ∧ OwnB W w.heap.size v5 (pad 64 xs) ∧ Bk W b1 116 [.int .i64 64, .int .i64 128, .int .i64 80, l0, l1, u0, u1] ∧ Keep [] w W) (fun ⟨m, X, o⟩ => M - m) ⟨0, st8 64 Hl, o⟩ ⟨rfl, rfl, rfl, rfl, rfl, trivial⟩ (⟨by omega, rfl, ow.lo zw, oK, oP, hbz, hB⟩) ?_
    rintro ⟨m, X, o⟩ w11 ⟨hm0, heq, ow, oK, oP, hbz, hB⟩
    refine a9 [(2, .pointer (some ⟨b1, 0, none⟩)), (5, v1), (7, o), (9, v5), (10, .int .i64 (128 * (m : Int)))] ⟨rfl, rfl, rfl, rfl, rfl, trivial⟩ ?_
    have hcu := oP.rd.vcap
    have hlu : ((pad 64 xs).drop (128 * m)).length = (pad 64 xs).length - 128 * m := List.length_drop
    refine a5 (a5 (aZ (ogm rfl rfl (ogm rfl rfl (a7 (cN (v' := .int .i64 ((pad 64 xs).length : Int)) (cB aA rfl oP.rd) rfl) rfl (a7 (bd rfl rfl) rfl (a6 (bT rfl (fun hc2 => ?_) (fun hc2 => ?_)))))))))
    · -- yes
      refine af (a5 (ab (bf 11 [0, 1, 2, 3, 4, 5, 6, 7, 8, 9, 10] [10] [] mixed [(2, _), (7, _), (5, _), (9, _), (10, _)] ⟨rfl, rfl, rfl, rfl, rfl, trivial⟩ (by decide +kernel) rfl (fun w12 k10 => ?_))))
      replace ow := ow.s8 k10
      replace oK := oK.s8 k10
      replace oP := oP.s8 k10
      obtain ⟨hB, hbz⟩ := bN k10 hB hbz
      refine am 2 rfl rfl rfl rfl (fun W' kk => aa (cs' := [_, _, _, _, _, _, _]) dU cz rfl (Bk.s8 hbz kk) rfl rfl) (bL 7 rfl rfl rfl rfl rfl (bL 5 rfl rfl rfl rfl rfl (bL 9 rfl rfl rfl rfl rfl (bL 10 rfl rfl rfl rfl rfl (bL 10 rfl rfl rfl rfl rfl (am 2 rfl rfl rfl rfl (fun W' kk => ax 1 aO rfl cU (by decide) rfl rfl) (am 49 rfl rfl rfl rfl (fun W' kk => ah dc rfl (Bk.s8 hbz kk) rfl) (cF 48 50 rfl rfl rfl rfl rfl (fun W' kk => bi rfl rfl (by omega)) ?_))))))))
      have hge : 128 * m + 128 ≤ (pad 64 xs).length := by omega
      refine kf [(46, _), (47, _), (51, _)] rfl rfl ⟨rfl, rfl, rfl, trivial⟩ rfl (fun W' kk => cN (v' := (cut v5 (128 * m) (128 * m + 128) 1)) (fo aA cg rfl (Rd.s8 oP.rd kk) (.inr ⟨_, _, rfl, rfl⟩) (.inr ⟨_, _, rfl, rfl⟩) ⟨by omega, by omega, by omega⟩) (by rw [show ((128 : Int) * (m : Int)).toNat = 128 * m from by omega, show ((128 : Int) * (m : Int) + 128).toNat = 128 * m + 128 from by omega])) (bq [(43, _), (44, _), (45, _), (52, _)] rfl rfl ⟨rfl, rfl, rfl, rfl, trivial⟩ rfl (a8 (vs := [_, _, _, _]) rfl (nC _ _ _ _ _ _ _ ((pad 64 xs).drop (128 * m) |>.take 128) X _ (hl0.s8 hB) (hl1.s8 hB) (hu0.s8 hB) (hu1.s8 hB) ow.rd oK.rd (by have := oP.rd.cutB (l := 128 * m) (hi := 128 * m + 128) (by omega) (by omega); rw [show 128 * m + 128 - 128 * m = 128 from by omega] at this; exact this) (by rw [List.length_take, hlu]; omega))) ?_)
      rintro v6 w13 ⟨o6, k11⟩
      refine ⟨k11, ?_⟩
      have gl_o6 := hB.size
      replace ow := ow.s8 k11
      replace oK := oK.s8 k11
      replace oP := oP.s8 k11
      obtain ⟨hB, hbz⟩ := bN k11 hB hbz
      refine bz (oga rfl rfl (a6 (a9 [(2, _), (7, _), (5, _), (9, _), (10, _)] ⟨rfl, rfl, rfl, rfl, rfl, trivial⟩ (bZ (aZ (ogm rfl rfl (a7 (ax 1 aO rfl cU (by decide) rfl rfl) rfl (a7 (ah dc rfl hbz rfl) rfl ?_))))))))
      refine a7 (cN (v' := .int .i64 (128 * ((m + 1 : Nat) : Int))) (bi rfl rfl (by omega)) (congrArg (Value.int .i64) (by omega))) rfl (oga rfl rfl (a6 (bM (Γ := Nat × S8 64 × Value) ⟨m + 1, blk cT Kl (((pad 64 xs).drop (128 * m)).take 128) X, v6⟩ ⟨rfl, rfl, rfl, rfl, rfl, trivial⟩ (by (try dsimp only); omega) (⟨by omega, by rw [← heq, kP (show 0 < M - m from by omega), List.drop_drop]; rfl, o6.lo gl_o6, oK, oP, hbz, hB⟩))))
    · -- no
      refine bF rfl (a5 (aZ (oga rfl rfl (a6 (a5 (a5 (aZ (oga rfl rfl ?_))))))))
      refine a6 (ab ?_)
      obtain rfl : m = M := by omega
      rw [Nat.sub_self] at heq
      obtain ⟨Z2, hZ2⟩ : ∃ Z, Z = w11.heap.size := ⟨_, rfl⟩
      have zb2 : b1 < Z2 := by have := hbz.lt; omega
      have zo_ow : ∀ x, x ∈ vblk o → x < Z2 := fun x hx => by have := (ow.blk x hx).2; omega
      have zw2 : w.heap.size ≤ Z2 := by have := hB.size; omega
      refine bK (Γ := Nat × Value) (fun ⟨i, q⟩ => [(2, .pointer (some ⟨b1, 0, none⟩)), (7, o), (11, q), (12, .int .i64 (i : Int))]) (fun ⟨i, q⟩ W => i ≤ 8 ∧ OwnB W Z2 q (((eT X).take i).flatMap fun x => be (x.toNat : Int) 8) ∧ OwnW W w.heap.size o (eT X) ∧ Bk W b1 116 [.int .i64 64, .int .i64 128, .int .i64 80, l0, l1, u0, u1] ∧ Z2 ≤ W.heap.size ∧ Keep [] w W) (fun ⟨i, q⟩ => 8 - i) ⟨0, .slice none 0 0⟩ ⟨rfl, rfl, rfl, rfl, trivial⟩ (⟨by omega, dM _ _ _ _, ow, hbz, by omega, hB⟩) ?_
      rintro ⟨i, q⟩ w14 ⟨hi0, oq, ow, hbz, hZs, hB⟩
      refine a9 [(2, .pointer (some ⟨b1, 0, none⟩)), (7, o), (11, q), (12, .int .i64 (i : Int))] ⟨rfl, rfl, rfl, rfl, trivial⟩ ?_
      have hfl : (((eT X).take i).flatMap fun x => be (x.toNat : Int) 8).length ≤ 64 := pq X i
      refine a5 (a5 (aZ (ogm rfl rfl (a7 (bd rfl rfl) rfl (a6 (bT rfl (fun hc3 => ?_) (fun hc3 => ?_)))))))
      · -- yes
        refine af (a5 (ab (a5 (aZ (a7 (ax 0 aO rfl cU (by decide) rfl rfl) rfl (a7 (ah dc rfl hbz rfl) rfl (a7 (bC (j := 56) (cY rfl rfl) (by decide)) rfl (oga rfl rfl ?_))))))))
        refine a6 (ab ?_)
        obtain ⟨x, hx⟩ : ∃ x, (eT X)[i]? = some x := ⟨_, List.getElem?_eq_getElem (show i < (eT X).length from by show i < 8; omega)⟩
        refine bK (Γ := Nat × Value) (fun ⟨j, q'⟩ => [(2, .pointer (some ⟨b1, 0, none⟩)), (7, o), (11, q'), (12, .int .i64 (i : Int)), (13, .int .i64 (56 - 8 * (j : Int)))]) (fun ⟨j, q'⟩ W => j ≤ 8 ∧ OwnB W Z2 q' ((((eT X).take i).flatMap fun x => be (x.toNat : Int) 8) ++ (be (x.toNat : Int) 8).take j) ∧ OwnW W w.heap.size o (eT X) ∧ Bk W b1 116 [.int .i64 64, .int .i64 128, .int .i64 80, l0, l1, u0, u1] ∧ Z2 ≤ W.heap.size ∧ Keep [] w W) (fun ⟨j, q'⟩ => 8 - j) ⟨0, q⟩ ⟨rfl, rfl, rfl, rfl, rfl, trivial⟩ (⟨by omega, by rw [List.take_zero, List.append_nil]; exact oq, ow, hbz, hZs, hB⟩) ?_
        rintro ⟨j, q'⟩ w15 ⟨hj0, oq, ow, hbz, hZs, hB⟩
        refine a9 [(2, .pointer (some ⟨b1, 0, none⟩)), (7, o), (11, q'), (12, .int .i64 (i : Int)), (13, .int .i64 (56 - 8 * (j : Int)))] ⟨rfl, rfl, rfl, rfl, rfl, trivial⟩ (a5 (a5 (aZ (ogm rfl rfl (a7 (ii rfl rfl) rfl (a6 (bT rfl (fun hc4 => ?_) (fun hc4 => ?_))))))))
        · -- yes
          refine af (a5 (ab (aZ (ogm rfl rfl (ogm rfl rfl (ogm rfl rfl (a7 (bk aC ag rfl ow.rd rfl (by constructor <;> first | omega | (show (_ : Int) < 8; omega))) rfl (a7 (cN (v' := .int .u64 ((x).toNat : Int)) (cq (l := (eT X)) i au rfl ow.rd rfl (by show i < 8; omega)) (by rw [List.getD_eq_getElem?_getD, hx]; rfl)) rfl ?_))))))))
          refine ogm rfl rfl (a7 (kJ (by rw [aJ]; rfl) aS rfl (by omega)) rfl (a7 (fC rfl rfl (by constructor <;> (try simp only [IntKind.bits]) <;> omega)) rfl (a7 (eb (by rw [aN]; rfl) aH rfl) rfl (ad (dv (m := 1) (xs := [.tmp 73]) (vs := [_]) aA cg (by decide) rfl rfl rfl (by first | (simp; done) | (intro v hv; rw [List.mem_singleton] at hv; subst hv; rfl)) (by decide)) rfl ?_))))
          rintro v7 w16 ⟨o7, nn2, lb3, k12, z3⟩
          replace oq := oq.s8 k12
          replace ow := ow.s8 k12
          obtain ⟨hB, hbz⟩ := bN k12 hB hbz
          have hby : IntKind.u8.wrap ((x.toNat : Int) / 2 ^ (56 - 8 * (j : Int)).toNat) = ((byteAt (x.toNat : Int) (7 - j)).toNat : Int) := by rw [el, IntKind.wrap_u8]; congr 3; omega
          replace o7 := gx o7 hby
          have e1 : (be (x.toNat : Int) 8).take (j + 1) = (be (x.toNat : Int) 8).take j ++ [byteAt (x.toNat : Int) (7 - j)] := eA (by simp only [be, List.getElem?_map]; rw [List.getElem?_range (by omega)]; rfl)
          have hl8 : ((be (x.toNat : Int) 8).take j).length ≤ 8 := by rw [List.length_take, dI]; omega
          have zk12 := k12.size
          refine ad (dn aA cg rfl oq rfl (show RdB _ _ [byteAt (x.toNat : Int) (7 - j)] from o7.rd) (by simp only [List.length_append, List.length_singleton]; omega) (by omega)) rfl ?_
          rintro v8 w17 ⟨o8, k13, lb4, _⟩
          replace hB := hB.new k13 (fun x hx => .inl (by have h1 := (oq.blk x hx).1; omega))
          replace hZs : Z2 ≤ w17.heap.size := by have h9 := k13.size; omega
          replace ow := ow.keep k13 (fun x hx hm => by have h1 := (oq.blk x hm).1; have h2 := zo_ow x hx; omega)
          replace hbz := hbz.keep k13 (fun hm => by have h1 := (oq.blk _ hm).1; omega)
          refine oga rfl rfl (a6 (a9 [(2, _), (7, _), (11, _), (12, _), (13, _)] ⟨rfl, rfl, rfl, rfl, rfl, trivial⟩ (bZ (aZ (ogm rfl rfl (a7 (cN (v' := .int .i64 (56 - 8 * ((j + 1 : Nat) : Int))) (cj rfl rfl (by omega)) (by congr 1; omega)) rfl (oga rfl rfl (a6 ?_))))))))
          refine bM (Γ := Nat × Value) ⟨j + 1, v8⟩ ⟨rfl, rfl, rfl, rfl, rfl, trivial⟩ (by (try dsimp only); omega) (⟨by omega, by rw [e1, ← List.append_assoc]; unfold OwnB; rw [List.length_append]; exact o8, ow, hbz, hZs, hB⟩)
        · -- no
          refine bF rfl (bZ (aZ (ogm rfl rfl (a7 (bi rfl rfl (by omega)) rfl (oga rfl rfl (a6 ?_))))))
          obtain rfl : j = 8 := by omega
          rw [List.take_of_length_le (show (be (x.toNat : Int) 8).length ≤ 8 from by rw [dI]; exact Nat.le_refl _)] at oq
          refine bM (Γ := Nat × Value) ⟨i + 1, q'⟩ ⟨rfl, rfl, rfl, rfl, trivial⟩ (by (try dsimp only); omega) (⟨by omega, by rw [j4 hx]; exact oq, ow, hbz, hZs, hB⟩)
      · -- no
        refine bF rfl (a5 (aZ (ogm rfl rfl (oga rfl rfl (a6 (bG hfin Tryz.results84 rfl ?_))))))
        obtain rfl : i = 8 := by omega
        rw [List.take_of_length_le (show (eT X).length ≤ 8 from Nat.le_refl 8)] at oq
        refine ⟨?_, hB⟩
        unfold Sha.sum
        rw [← hM, ← heq]
        exact oq.lo zw2
theorem mg (v : Value) (xs : List UInt8) (w : World) (hT : Tabs w) (hv : RdB w v xs) (hx : xs.length ≤ 140737488354000) : Rets Tryz.prog 36 [v] w (fun r w' => OwnB w' w.heap.size r (Sha.sum cT Kl Hl xs) ∧ Keep [] w w') := by
 have hB : Keep [] w w := Keep.refl _ _
 refine ac Tryz.func36 rfl (by decide) Tryz.ntmps36 rfl (fun fin _ hfin => a5 (aZ (oga rfl rfl (a6 (a5 (aZ (ad (a8 (vs := []) rfl (qP _)) rfl ?_)))))))
 rintro _ w1 ⟨rfl, k1⟩
 replace hB := hB.trans k1
 refine ogm rfl rfl (ad (a8 (vs := [_, _]) rfl (sum_any _ xs _ (hT.s8 hB) (hv.s8 hB) hx)) rfl ?_)
 rintro v1 w2 ⟨o1, k2⟩
 have gl_o1 := hB.size
 replace hB := hB.trans k2
 refine oga rfl rfl (a6 (bG hfin Tryz.results36 rfl ?_))
 exact ⟨o1.lo gl_o1, hB⟩
theorem lj (v : Value) (xs : List UInt8) (w : World) (hv : RdB w v xs) (hx : xs.length ≤ 140737488354000) : Rets Tryz.prog 38 [v] w (fun r w' => OwnB w' w.heap.size r (Sha.sum cT Kl Hl xs) ∧ Keep [] w w') := by
 have hB : Keep [] w w := Keep.refl _ _
 refine ac Tryz.func38 rfl (by decide) Tryz.ntmps38 rfl (fun fin _ hfin => a5 (aZ (oga rfl rfl (a6 (a5 (aZ (ad (a8 (vs := []) rfl (mu _)) rfl ?_)))))))
 rintro _ w1 ⟨l0, l1, u0, u1, rfl, a, b, c, d, k1⟩
 replace hB := hB.trans k1
 have hA : Keep [] w1 w1 := Keep.refl _ _
 refine ad (aj cz) rfl ?_
 rintro _ w2 ⟨b1, rfl, eb1, hb1, k2, z1⟩
 have gA2 : w1.heap.size ≤ b1 := by have := hA.size; omega
 have gA_b1 := hA.size
 have ge_b1 : w.heap.size ≤ b1 := by have := hB.size; omega
 replace hA := hA.trans k2
 replace hB := hB.trans k2
 clear eb1 z1
 refine ae (bB cz rfl rfl rfl (by simp only [List.forall_mem_cons]; exact ⟨rfl, rfl, rfl, a.one, b.one, c.one, d.one, fun v hv => by cases hv⟩) hb1 rfl) ?_
 rintro _ w3 ⟨hb2, k3, z2⟩
 replace hA := hA.new k3 (fun x hx => .inl (by rw [List.mem_singleton] at hx; omega))
 replace hB := hB.new k3 (nw ge_b1)
 clear z2
 replace hb2 : Bk w3 b1 _ [.int .i64 64, .int .i64 128, .int .i64 80, l0, l1, u0, u1] := hb2
 refine a6 (a5 (aZ (a7 (aa (cs' := [_, _, _, _, _, _, _]) dU cz rfl hb2 rfl rfl) rfl (ogm rfl rfl (ad (a8 (vs := [_, _]) rfl (ql _ _ _ _ _ xs _ (a.s8 hA) (b.s8 hA) (c.s8 hA) (d.s8 hA) (hv.s8 hB) hx)) rfl ?_)))))
 rintro v1 w4 ⟨o1, k4⟩
 replace hA := hA.trans k4
 have gl_o1 := hB.size
 replace hB := hB.trans k4
 refine oga rfl rfl (a6 (bG hfin Tryz.results38 rfl ?_))
 exact ⟨o1.lo gl_o1, hB⟩
end Go.Proofs.YtllmbkmghmmhfaaGreatDoor.W
namespace Go.Proofs.YtllmbkmghmmhfaaGreatDoor.W
open Go Go.Eng Go.Byt
open Go.Fld Go.Ed
theorem d_bytes : fp (leI [163, 120, 89, 19, 202, 77, 235, 117, 171, 216, 65, 65, 77, 10, 112, 0, 152, 232, 121, 119, 121, 64, 199, 140, 115, 254, 111, 43, 238, 108, 3, 82]) = d := by decide +kernel
theorem nE (w : World) : Rets Tryz.prog 61 [] w (fun v w' => ∃ h, v = .agg (iv .u64 5 h).toArray ∧ El h d ∧ Keep [] w w') := by
 have hB : Keep [] w w := Keep.refl _ _
 refine ac Tryz.func61 rfl (by decide) Tryz.ntmps61 rfl (fun fin _ hfin => a5 (aZ (ad (aj bD) rfl ?_)))
 rintro _ w1 ⟨b1, rfl, eb1, hb1, k1, z1⟩
 have ge_b1 : w.heap.size ≤ b1 := by have := hB.size; omega
 replace hB := hB.trans k1
 clear eb1 z1
 refine a6 (a5 (aZ (ad (dv (m := 32) (xs := [.const (.int .u8 (163)), .const (.int .u8 (120)), .const (.int .u8 (89)), .const (.int .u8 (19)), .const (.int .u8 (202)), .const (.int .u8 (77)), .const (.int .u8 (235)), .const (.int .u8 (117)), .const (.int .u8 (171)), .const (.int .u8 (216)), .const (.int .u8 (65)), .const (.int .u8 (65)), .const (.int .u8 (77)), .const (.int .u8 (10)), .const (.int .u8 (112)), .const (.int .u8 (0)), .const (.int .u8 (152)), .const (.int .u8 (232)), .const (.int .u8 (121)), .const (.int .u8 (119)), .const (.int .u8 (121)), .const (.int .u8 (64)), .const (.int .u8 (199)), .const (.int .u8 (140)), .const (.int .u8 (115)), .const (.int .u8 (254)), .const (.int .u8 (111)), .const (.int .u8 (43)), .const (.int .u8 (238)), .const (.int .u8 (108)), .const (.int .u8 (3)), .const (.int .u8 (82))]) (vs := [_, _, _, _, _, _, _, _, _, _, _, _, _, _, _, _, _, _, _, _, _, _, _, _, _, _, _, _, _, _, _, _]) aA cg (by decide) rfl rfl rfl (by simp only [List.forall_mem_cons]; exact ⟨rfl, rfl, rfl, rfl, rfl, rfl, rfl, rfl, rfl, rfl, rfl, rfl, rfl, rfl, rfl, rfl, rfl, rfl, rfl, rfl, rfl, rfl, rfl, rfl, rfl, rfl, rfl, rfl, rfl, rfl, rfl, rfl, fun v hv => by cases hv⟩) (by decide)) rfl ?_)))
 rintro v1 w2 ⟨o1, nn1, lb1, k2, z2⟩
 obtain ⟨hB, hb1⟩ := bN k2 hB hb1
 replace o1 : Own w2 _ _ 1 v1 32 (bv [163, 120, 89, 19, 202, 77, 235, 117, 171, 216, 65, 65, 77, 10, 112, 0, 152, 232, 121, 119, 121, 64, 199, 140, 115, 254, 111, 43, 238, 108, 3, 82]) := o1
 refine ad (a8 (vs := [_]) rfl (j0 _ [163, 120, 89, 19, 202, 77, 235, 117, 171, 216, 65, 65, 77, 10, 112, 0, 152, 232, 121, 119, 121, 64, 199, 140, 115, 254, 111, 43, 238, 108, 3, 82] _ o1.rd rfl)) rfl ?_
 rintro _ w3 ⟨hh1, rfl, E1, k3⟩
 obtain ⟨hB, hb1⟩ := bN k3 hB hb1
 refine ogm rfl rfl (a7 (bH (vs := [_, _]) rfl rfl) rfl (a7 (bH (vs := [_, _]) rfl rfl) rfl (ad (aj bD) rfl ?_)))
 rintro _ w4 ⟨b2, rfl, eb2, hb2, k4, z3⟩
 have ge_b2 : w.heap.size ≤ b2 := by have := hB.size; omega
 have ne_b1_b2 : b1 ≠ b2 := by have := hb1.lt; omega
 obtain ⟨hB, hb1⟩ := bN k4 hB hb1
 clear eb2 z3
 refine ae (bB bD rfl rfl rfl ai hb2 rfl) ?_
 rintro _ w5 ⟨hb3, k5, z4⟩
 replace hb1 := hb1.keep k5 (nm ne_b1_b2)
 replace hB := hB.new k5 (nw ge_b2)
 clear z4
 replace hb3 := di (g := hh1) hb3
 refine oga rfl rfl (a6 (a5 (aZ (a7 (aa (cs' := [_, _, _, _, _]) cA bD rfl hb3 rfl rfl) rfl (ae (bB bD rfl rfl rfl (by simp only [List.forall_mem_cons]; refine ⟨rfl, rfl, rfl, rfl, rfl, fun v hv => by cases hv⟩) hb1 rfl) ?_)))))
 rintro _ w6 ⟨hb4, k6, z5⟩
 replace hB := hB.new k6 (nw ge_b1)
 clear z5
 replace hb4 := di (g := hh1) hb4
 refine a6 (ba hfin Tryz.results61 rfl (ak cA bD hb4 rfl)  ?_)
 exact ⟨hh1, rfl, d_bytes ▸ E1, hB⟩
theorem oF (f : Nat → Int) : (iv .u64 5 f).toArray.extract 0 (0 + 5) = (iv .u64 5 f).toArray := by rw [List.extract_toArray]; rfl
theorem mN (f : Nat → Int) : (iv .u64 20 f).toArray.extract 0 (0 + 5) = (iv .u64 5 f).toArray ∧ (iv .u64 20 f).toArray.extract 5 (5 + 5) = (iv .u64 5 (fun i => f (5 + i))).toArray ∧ (iv .u64 20 f).toArray.extract 10 (10 + 5) = (iv .u64 5 (fun i => f (10 + i))).toArray ∧ (iv .u64 20 f).toArray.extract 15 (15 + 5) = (iv .u64 5 (fun i => f (15 + i))).toArray := by
  refine ⟨?_, ?_, ?_, ?_⟩ <;> (rw [List.extract_toArray]; rfl)
def pu (f g : Nat → Int) : Bool := (List.range 5).all fun i => f i == g i
theorem kp (w : World) (d : Nat) (f g : Nat → Int) : (Op.equalIn (d + 3) 51 (.agg (iv .u64 5 f).toArray) (.agg (iv .u64 5 g).toArray)).run Tryz.prog w = .ok (pu f g && true) w :=
 li w aW (by kernel_rfl) (gF w rfl bp az (by rw [show (0 : Nat) + 5 = 5 from rfl]; exact (oF f ▸ oF g ▸ qk w (d := d) aB aN ag f g)) (oS w (d + 2) (iv .u64 5 f).toArray (iv .u64 5 g).toArray))
theorem pt_eq (w : World) (f g : Nat → Int) : (Op.equalIn 10000 53 (.agg (iv .u64 20 f).toArray) (.agg (iv .u64 20 g).toArray)).run Tryz.prog w = .ok ((pu f g && true) && ((pu (fun i => f (5 + i)) (fun i => g (5 + i)) && true) && ((pu (fun i => f (10 + i)) (fun i => g (10 + i)) && true) && ((pu (fun i => f (15 + i)) (fun i => g (15 + i)) && true) && true)))) w := by
  obtain ⟨a1, a2, a3, a4⟩ := mN f
  obtain ⟨b1, b2, b3, b4⟩ := mN g
  refine li w aK (by kernel_rfl) (gF w rfl cA bD ?_ (gF w rfl cA bD ?_ (gF w rfl cA bD ?_ (gF w rfl cA bD ?_ (oS w 9999 (iv .u64 20 f).toArray (iv .u64 20 g).toArray)))))
  · exact a1 ▸ b1 ▸ kp w 9996 _ _
  · exact a2 ▸ b2 ▸ kp w 9996 _ _
  · exact a3 ▸ b3 ▸ kp w 9996 _ _
  · exact a4 ▸ b4 ▸ kp w 9996 _ _
theorem rx {f : Nat → Int} {g : Nat → Int} {a : Fp} (h : pu f (fun _ => 0) = true) (hg : El g a) (h0 : g 0 = f 0 ∧ g 1 = f 1 ∧ g 2 = f 2 ∧ g 3 = f 3 ∧ g 4 = f 4) : a = 0 := by
  have e := fun i hi => eq_of_beq (List.all_eq_true.1 h i (List.mem_range.2 hi))
  obtain ⟨g0, g1, g2, g3, g4⟩ := h0
  obtain ⟨_, _, _, _, _, hv⟩ := hg
  rw [← hv]; unfold dy
  rw [g0, g1, g2, g3, g4, e 0 (by decide), e 1 (by decide), e 2 (by decide), e 3 (by decide), e 4 (by decide)]
  decide
theorem full_ne {p : Nat → Int} {X Y Z T : Fp} (h : PtEl p X Y Z T) (hz : Z ≠ 0) : ((pu p (fun _ => 0) && true) && ((pu (fun i => p (5 + i)) (fun _ => 0) && true) && ((pu (fun i => p (10 + i)) (fun _ => 0) && true) && ((pu (fun i => p (15 + i)) (fun _ => 0) && true) && true)))) = false := by
  cases he : pu (fun i => p (10 + i)) (fun _ => 0) with
  | true => exact absurd (rx he h.2.2.1 ⟨rfl, rfl, rfl, rfl, rfl⟩) hz
  | false => simp
theorem iB (p : Nat → Int) (X Y Z T : Fp) (hp : PtEl p X Y Z T) (hz : Z ≠ 0) (w : World) : Rets Tryz.prog 44 [.agg (iv .u64 20 p).toArray] w (fun v w' => ∃ r, v = .agg (iv .u64 20 r).toArray ∧ PtEl r X Y Z T ∧ Keep [] w w') := by
 have hB : Keep [] w w := Keep.refl _ _
 refine ac Tryz.func44 rfl (by decide) Tryz.ntmps44 rfl (fun fin _ hfin => a5 (aZ (ad (bc (cs := [.int .u64 (p 0), .int .u64 (p 1), .int .u64 (p 2), .int .u64 (p 3), .int .u64 (p 4), .int .u64 (p 5), .int .u64 (p 6), .int .u64 (p 7), .int .u64 (p 8), .int .u64 (p 9), .int .u64 (p 10), .int .u64 (p 11), .int .u64 (p 12), .int .u64 (p 13), .int .u64 (p 14), .int .u64 (p 15), .int .u64 (p 16), .int .u64 (p 17), .int .u64 (p 18), .int .u64 (p 19)]) rfl rfl) rfl ?_)))
 rintro _ w1 ⟨b1, rfl, eb1, hb1, k1, z1⟩
 replace hB := hB.trans k1
 clear eb1 z1
 refine ad (aj bx) rfl ?_
 rintro _ w2 ⟨b2, rfl, eb2, hb2, k2, z2⟩
 have ge_b2 : w.heap.size ≤ b2 := by have := hB.size; omega
 obtain ⟨hB, hb1⟩ := bN k2 hB hb1
 clear eb2 z2
 refine a6 (a5 (a5 (aZ (a7 (aa (cs' := [_, _, _, _, _, _, _, _, _, _, _, _, _, _, _, _, _, _, _, _]) dd bx rfl hb1 rfl rfl) rfl (a7 (dR (idx := []) (xs := []) (vs := []) (css := []) (out := [_, _, _, _, _, _, _, _, _, _, _, _, _, _, _, _, _, _, _, _]) ly bx rfl rfl trivial rfl rfl) rfl (a7 (rk (by kernel_rfl) rfl rfl (pt_eq _ p (fun _ => 0))) rfl (a6 (lZ rfl (full_ne hp hz) (af (a5 (aZ (a7 (aa (cs' := [_, _, _, _, _, _, _, _, _, _, _, _, _, _, _, _, _, _, _, _]) dd bx rfl hb1 rfl rfl) rfl (ae (bB bx rfl rfl rfl (by simp only [List.forall_mem_cons]; refine ⟨rfl, rfl, rfl, rfl, rfl, rfl, rfl, rfl, rfl, rfl, rfl, rfl, rfl, rfl, rfl, rfl, rfl, rfl, rfl, rfl, fun v hv => by cases hv⟩) hb2 rfl) ?_)))))))))))))
 rintro _ w3 ⟨hb3, k3, z3⟩
 replace hB := hB.new k3 (nw ge_b2)
 clear z3
 replace hb3 := gV (g := p) hb3
 refine a6 (ba hfin Tryz.results44 rfl (ak dd bx hb3 rfl)  ?_)
 exact ⟨p, rfl, ⟨hp.1, hp.2.1, hp.2.2.1, hp.2.2.2⟩, hB⟩
theorem pn (w : World) : Rets Tryz.prog 44 [.agg (iv .u64 20 (fun _ => 0)).toArray] w (fun v w' => ∃ r, v = .agg (iv .u64 20 r).toArray ∧ PtEl r 0 (fp 1) (fp 1) (0 * fp 1) ∧ Keep [] w w') := by
 have hB : Keep [] w w := Keep.refl _ _
 refine ac Tryz.func44 rfl (by decide) Tryz.ntmps44 rfl (fun fin _ hfin => a5 (aZ (ad (bc (cs := [.int .u64 ((fun _ => 0) 0), .int .u64 ((fun _ => 0) 1), .int .u64 ((fun _ => 0) 2), .int .u64 ((fun _ => 0) 3), .int .u64 ((fun _ => 0) 4), .int .u64 ((fun _ => 0) 5), .int .u64 ((fun _ => 0) 6), .int .u64 ((fun _ => 0) 7), .int .u64 ((fun _ => 0) 8), .int .u64 ((fun _ => 0) 9), .int .u64 ((fun _ => 0) 10), .int .u64 ((fun _ => 0) 11), .int .u64 ((fun _ => 0) 12), .int .u64 ((fun _ => 0) 13), .int .u64 ((fun _ => 0) 14), .int .u64 ((fun _ => 0) 15), .int .u64 ((fun _ => 0) 16), .int .u64 ((fun _ => 0) 17), .int .u64 ((fun _ => 0) 18), .int .u64 ((fun _ => 0) 19)]) rfl rfl) rfl ?_)))
 rintro _ w1 ⟨b1, rfl, eb1, hb1, k1, z1⟩
 replace hB := hB.trans k1
 clear eb1 z1
 refine ad (aj bx) rfl ?_
 rintro _ w2 ⟨b2, rfl, eb2, hb2, k2, z2⟩
 have ge_b2 : w.heap.size ≤ b2 := by have := hB.size; omega
 obtain ⟨hB, hb1⟩ := bN k2 hB hb1
 clear eb2 z2
 refine a6 (a5 (a5 (aZ (a7 (aa (cs' := [_, _, _, _, _, _, _, _, _, _, _, _, _, _, _, _, _, _, _, _]) dd bx rfl hb1 rfl rfl) rfl (a7 (dR (idx := []) (xs := []) (vs := []) (css := []) (out := [_, _, _, _, _, _, _, _, _, _, _, _, _, _, _, _, _, _, _, _]) ly bx rfl rfl trivial rfl rfl) rfl (a7 (rk (by kernel_rfl) rfl rfl (pt_eq _ (fun _ => 0) (fun _ => 0))) rfl (a6 (qW rfl (by decide) (a5 (aZ (a7 (dR (idx := []) (xs := []) (vs := []) (css := []) (out := [_, _, _, _, _]) lz bD rfl rfl trivial rfl rfl) rfl (ad (a8 (vs := [_]) rfl (i1 _ (by decide) _)) rfl ?_))))))))))))
 rintro _ w3 ⟨hh1, rfl, E1, k3⟩
 obtain ⟨hB, hb2⟩ := bN k3 hB hb2
 refine ad (a8 (vs := [_, _]) rfl (gj _ _ _ _ fg E1 _)) rfl ?_
 rintro _ w4 ⟨hh2, rfl, E2, k4⟩
 obtain ⟨hB, hb2⟩ := bN k4 hB hb2
 refine ae (bB bx rfl rfl rfl ai hb2 rfl) ?_
 rintro _ w5 ⟨hb3, k5, z3⟩
 replace hB := hB.new k5 (nw ge_b2)
 clear z3
 replace hb3 := gV (g := hh2) hb3
 refine a6 (ba hfin Tryz.results44 rfl (ak dd bx hb3 rfl)  ?_)
 exact ⟨hh2, rfl, ⟨E2.1, E2.2.1, E2.2.2.1, E2.2.2.2⟩, hB⟩
theorem qM (p q : Nat → Int) (X1 Y1 Z1 T1 X2 Y2 Z2 T2 : Fp) (hp : PtEl p X1 Y1 Z1 T1) (hz1 : Z1 ≠ 0) (hq : PtEl q X2 Y2 Z2 T2) (hz2 : Z2 ≠ 0) (w : World) : Rets Tryz.prog 29 [.agg (iv .u64 20 p).toArray, .agg (iv .u64 20 q).toArray] w (fun v w' => ∃ r, v = .agg (iv .u64 20 r).toArray ∧ PtEl r (((X1 + Y1) * (X2 + Y2) - X1 * X2 - Y1 * Y2) * (Z1 * Z2 - T1 * T2 * d)) ((Z1 * Z2 + T1 * T2 * d) * (Y1 * Y2 + X1 * X2)) ((Z1 * Z2 - T1 * T2 * d) * (Z1 * Z2 + T1 * T2 * d)) (((X1 + Y1) * (X2 + Y2) - X1 * X2 - Y1 * Y2) * (Y1 * Y2 + X1 * X2)) ∧ Keep [] w w') := by
 have hB : Keep [] w w := Keep.refl _ _
 refine ac Tryz.func29 rfl (by decide) Tryz.ntmps29 rfl (fun fin _ hfin => a5 (aZ (ad (bc (cs := [.int .u64 (p 0), .int .u64 (p 1), .int .u64 (p 2), .int .u64 (p 3), .int .u64 (p 4), .int .u64 (p 5), .int .u64 (p 6), .int .u64 (p 7), .int .u64 (p 8), .int .u64 (p 9), .int .u64 (p 10), .int .u64 (p 11), .int .u64 (p 12), .int .u64 (p 13), .int .u64 (p 14), .int .u64 (p 15), .int .u64 (p 16), .int .u64 (p 17), .int .u64 (p 18), .int .u64 (p 19)]) rfl rfl) rfl ?_)))
 rintro _ w1 ⟨b1, rfl, eb1, hb1, k1, z1⟩
 replace hB := hB.trans k1
 clear eb1 z1
 refine ad (bc (cs := [.int .u64 (q 0), .int .u64 (q 1), .int .u64 (q 2), .int .u64 (q 3), .int .u64 (q 4), .int .u64 (q 5), .int .u64 (q 6), .int .u64 (q 7), .int .u64 (q 8), .int .u64 (q 9), .int .u64 (q 10), .int .u64 (q 11), .int .u64 (q 12), .int .u64 (q 13), .int .u64 (q 14), .int .u64 (q 15), .int .u64 (q 16), .int .u64 (q 17), .int .u64 (q 18), .int .u64 (q 19)]) rfl rfl) rfl ?_
 rintro _ w2 ⟨b2, rfl, eb2, hb2, k2, z2⟩
 obtain ⟨hB, hb1⟩ := bN k2 hB hb1
 clear eb2 z2
 refine ad (aj bx) rfl ?_
 rintro _ w3 ⟨b3, rfl, eb3, hb3, k3, z3⟩
 have ge_b3 : w.heap.size ≤ b3 := by have := hB.size; omega
 obtain ⟨hB, hb1, hb2⟩ := ca k3 hB hb1 hb2
 clear eb3 z3
 refine a6 (a5 (bf 6 [0, 2, 1, 3, 4, 5] [1, 3, 4, 5] [] mixed [(2, _), (3, _), (4, _)] ⟨rfl, rfl, rfl, trivial⟩ (by decide +kernel) rfl (fun w4 k4 => ?_)))
 obtain ⟨hB, hb1, hb2, hb3⟩ := dG k4 hB hb1 hb2 hb3
 refine am 2 rfl rfl rfl rfl (fun W' kk => aa (cs' := [_, _, _, _, _, _, _, _, _, _, _, _, _, _, _, _, _, _, _, _]) dd bx rfl (Bk.s8 hb1 kk) rfl rfl) (am 3 rfl rfl rfl rfl (fun W' kk => aa (cs' := [_, _, _, _, _, _, _, _, _, _, _, _, _, _, _, _, _, _, _, _]) dd bx rfl (Bk.s8 hb2 kk) rfl rfl) (bq [(5, _)] rfl rfl ⟨rfl, trivial⟩ rfl (a8 (vs := [_]) rfl (iB _ _ _ _ _ ⟨hp.1, hp.2.1, hp.2.2.1, hp.2.2.2⟩ hz1 _)) ?_))
 rintro _ w5 ⟨hh1, rfl, E1, k5⟩
 refine ⟨k5, ?_⟩
 obtain ⟨hB, hb3⟩ := bN k5 hB hb3
 refine bq [(7, _)] rfl rfl ⟨rfl, trivial⟩ rfl (a8 (vs := [_]) rfl (iB _ _ _ _ _ ⟨hq.1, hq.2.1, hq.2.2.1, hq.2.2.2⟩ hz2 _)) ?_
 rintro _ w6 ⟨hh2, rfl, E2, k6⟩
 refine ⟨k6, ?_⟩
 obtain ⟨hB, hb3⟩ := bN k6 hB hb3
 refine bq [] rfl rfl trivial rfl (a8 (vs := []) rfl (nE _)) ?_
 rintro _ w7 ⟨hh3, rfl, E3, k7⟩
 refine ⟨k7, ?_⟩
 obtain ⟨hB, hb3⟩ := bN k7 hB hb3
 refine bq [(6, _), (8, _), (9, _)] rfl rfl ⟨rfl, rfl, rfl, trivial⟩ rfl (a8 (vs := [_, _, _]) rfl (kA _ _ _ _ _ _ _ _ _ _ _ _ ⟨E1.1, E1.2.1, E1.2.2.1, E1.2.2.2⟩ ⟨E2.1, E2.2.1, E2.2.2.1, E2.2.2.2⟩ E3 _)) ?_
 rintro _ w8 ⟨hh4, rfl, E4, k8⟩
 refine ⟨k8, ?_⟩
 obtain ⟨hB, hb3⟩ := bN k8 hB hb3
 refine bz (ae (bB bx rfl rfl rfl ai hb3 rfl) ?_)
 rintro _ w9 ⟨hb4, k9, z4⟩
 replace hB := hB.new k9 (nw ge_b3)
 clear z4
 replace hb4 := gV (g := hh4) hb4
 refine a6 (ba hfin Tryz.results29 rfl (ak dd bx hb4 rfl)  ?_)
 exact ⟨hh4, rfl, ⟨E4.1, E4.2.1, E4.2.2.1, E4.2.2.2⟩, hB⟩
theorem qK (w : World) : Rets Tryz.prog 67 [] w (fun v w' => ∃ r, v = .agg (iv .u64 20 r).toArray ∧ PtEl r 0 (fp 1) (fp 1) (0 * fp 1) ∧ Keep [] w w') := by
 have hB : Keep [] w w := Keep.refl _ _
 refine ac Tryz.func67 rfl (by decide) Tryz.ntmps67 rfl (fun fin _ hfin => a5 (aZ (ad (aj bx) rfl ?_)))
 rintro _ w1 ⟨b1, rfl, eb1, hb1, k1, z1⟩
 have ge_b1 : w.heap.size ≤ b1 := by have := hB.size; omega
 replace hB := hB.trans k1
 clear eb1 z1
 refine a6 (a5 (aZ (a7 (dR (idx := []) (xs := []) (vs := []) (css := []) (out := [_, _, _, _, _, _, _, _, _, _, _, _, _, _, _, _, _, _, _, _]) ly bx rfl rfl trivial rfl rfl) rfl (ad (a8 (vs := [_]) rfl (pn _)) rfl ?_))))
 rintro _ w2 ⟨hh1, rfl, E1, k2⟩
 obtain ⟨hB, hb1⟩ := bN k2 hB hb1
 refine ae (bB bx rfl rfl rfl ai hb1 rfl) ?_
 rintro _ w3 ⟨hb2, k3, z2⟩
 replace hB := hB.new k3 (nw ge_b1)
 clear z2
 replace hb2 := gV (g := hh1) hb2
 refine a6 (ba hfin Tryz.results67 rfl (ak dd bx hb2 rfl)  ?_)
 exact ⟨hh1, rfl, ⟨E1.1, E1.2.1, E1.2.2.1, E1.2.2.2⟩, hB⟩
theorem iG {xs : List UInt8} {i : Nat} {b : Int} (h : In b 0 255) : (bv xs).set i (.int .u8 b) = bv (xs.set i (UInt8.ofNat b.toNat)) := by
 unfold In at h
 have e : (((UInt8.ofNat b.toNat).toNat : Nat) : Int) = b := by simp; omega
 unfold bv
 rw [List.map_set, e]
def encB (x y : Fp) : List UInt8 := (fpB y).set 31 (UInt8.ofNat (bits .or .u8 (gb (fpB y) 31) (IntKind.u8.wrap (gb (fpB x) 0 * 128))).toNat)
theorem gJ (p : Nat → Int) (X Y Z T : Fp) (hp : PtEl p X Y Z T) (hz : Z ≠ 0) (w : World) : Rets Tryz.prog 21 [.agg (iv .u64 20 p).toArray] w (fun v w' => OwnB w' w.heap.size v (encB (X * inv Z) (Y * inv Z)) ∧ Keep [] w w') := by
 have hB : Keep [] w w := Keep.refl _ _
 refine ac Tryz.func21 rfl (by decide) Tryz.ntmps21 rfl (fun fin _ hfin => a5 (aZ (ad (bc (cs := [.int .u64 (p 0), .int .u64 (p 1), .int .u64 (p 2), .int .u64 (p 3), .int .u64 (p 4), .int .u64 (p 5), .int .u64 (p 6), .int .u64 (p 7), .int .u64 (p 8), .int .u64 (p 9), .int .u64 (p 10), .int .u64 (p 11), .int .u64 (p 12), .int .u64 (p 13), .int .u64 (p 14), .int .u64 (p 15), .int .u64 (p 16), .int .u64 (p 17), .int .u64 (p 18), .int .u64 (p 19)]) rfl rfl) rfl ?_)))
 rintro _ w1 ⟨b1, rfl, eb1, hb1, k1, z1⟩
 have ge_b1 : w.heap.size ≤ b1 := by have := hB.size; omega
 replace hB := hB.trans k1
 clear eb1 z1
 refine oga rfl rfl (a6 (a5 (aZ (a7 (aa (cs' := [_, _, _, _, _, _, _, _, _, _, _, _, _, _, _, _, _, _, _, _]) dd bx rfl hb1 rfl rfl) rfl (ad (a8 (vs := [_]) rfl (iB _ _ _ _ _ ⟨hp.1, hp.2.1, hp.2.2.1, hp.2.2.2⟩ hz _)) rfl ?_)))))
 rintro _ w2 ⟨hh1, rfl, E1, k2⟩
 obtain ⟨hB, hb1⟩ := bN k2 hB hb1
 refine ae (bB bx rfl rfl rfl ai hb1 rfl) ?_
 rintro _ w3 ⟨hb2, k3, z2⟩
 replace hB := hB.new k3 (nw ge_b1)
 clear z2
 replace hb2 := gV (g := hh1) hb2
 refine a6 (a5 (aZ (a7 (dH aK rfl bD (by decide) rfl) rfl (a7 (aa (cs' := [_, _, _, _, _]) cA bD rfl hb2 rfl rfl) rfl (ad (a8 (vs := [_]) rfl (kq _ _ E1.2.2.1 _)) rfl ?_)))))
 rintro _ w4 ⟨hh2, rfl, E2, k4⟩
 obtain ⟨hB, hb2⟩ := bN k4 hB hb2
 refine ad (aj bD) rfl ?_
 rintro _ w5 ⟨b2, rfl, eb2, hb3, k5, z3⟩
 have ge_b2 : w.heap.size ≤ b2 := by have := hB.size; omega
 have ne_b1_b2 : b1 ≠ b2 := by have := hb2.lt; omega
 obtain ⟨hB, hb2⟩ := bN k5 hB hb2
 clear eb2 z3
 refine ae (bB bD rfl rfl rfl ai hb3 rfl) ?_
 rintro _ w6 ⟨hb4, k6, z4⟩
 replace hb2 := hb2.keep k6 (nm ne_b1_b2)
 replace hB := hB.new k6 (nw ge_b2)
 clear z4
 replace hb4 := di (g := hh2) hb4
 refine a6 (a5 (aZ (a7 (dH aK rfl bD (by decide) rfl) rfl (a7 (aa (cs' := [_, _, _, _, _]) cA bD rfl hb2 rfl rfl) rfl (a7 (aa (cs' := [_, _, _, _, _]) cA bD rfl hb4 rfl rfl) rfl (ad (a8 (vs := [_, _]) rfl (bt _ _ _ _ E1.2.1 E2 _)) rfl ?_))))))
 rintro _ w7 ⟨hh3, rfl, E3, k7⟩
 obtain ⟨hB, hb2, hb4⟩ := ca k7 hB hb2 hb4
 refine ad (a8 (vs := [_]) rfl (er _ _ E3 _)) rfl ?_
 rintro v1 w8 ⟨o1, k8⟩
 have gl_o1 := hB.size
 obtain ⟨hB, hb2, hb4⟩ := ca k8 hB hb2 hb4
 have lnv1 := bJ (Y * (inv Z))
 refine oga rfl rfl (a6 (a9 [(1, _), (3, _), (4, _)] ⟨rfl, rfl, rfl, trivial⟩ (a5 (bf 12 [0, 1, 2, 3, 4, 5, 6, 7, 8, 9, 10, 11] [6, 7] [] mixed [(4, _), (1, _), (3, _)] ⟨rfl, rfl, rfl, trivial⟩ (by decide +kernel) rfl (fun w9 k9 => ?_)))))
 obtain ⟨hb2, hb4⟩ := kF k9 hb2 hb4
 replace o1 := o1.s8 k9
 replace hB := hB.trans k9
 refine bL 4 rfl rfl rfl rfl rfl (am 15 rfl rfl rfl rfl (fun W' kk => bk aA cg rfl (o1.s8 kk).rd rfl (by omega)) (am 16 rfl rfl rfl rfl (fun W' kk => dT iI rfl (by first | exact Rd.s8 ‹_› kk | exact Rd.s8 (Own.rd ‹_›) kk | exact Rd.s8 (Rd.s8 ‹_› hB) kk | exact Rd.s8 (Own.rd (Own.s8 ‹_› hB)) kk) (by omega)) (am 1 rfl rfl rfl rfl (fun W' kk => dH aK rfl bD (by decide) rfl) (am 18 rfl rfl rfl rfl (fun W' kk => aa (cs' := [_, _, _, _, _]) cA bD rfl (Bk.s8 hb2 kk) rfl rfl) (am 3 rfl rfl rfl rfl (fun W' kk => aa (cs' := [_, _, _, _, _]) cA bD rfl (Bk.s8 hb4 kk) rfl rfl) (bq [(19, _), (20, _)] rfl rfl ⟨rfl, rfl, trivial⟩ rfl (a8 (vs := [_, _]) rfl (bt _ _ _ _ E1.1 E2 _)) ?_))))))
 rintro _ w10 ⟨hh4, rfl, E4, k10⟩
 refine ⟨k10, ?_⟩
 replace o1 := o1.s8 k10
 replace hB := hB.trans k10
 refine bq [(21, _)] rfl rfl ⟨rfl, trivial⟩ rfl (a8 (vs := [_]) rfl (er _ _ E4 _)) ?_
 rintro v2 w11 ⟨o2, k11⟩
 refine ⟨k11, ?_⟩
 replace o1 := o1.s8 k11
 replace hB := hB.trans k11
 have lnv2 := bJ (X * (inv Z))
 refine am 22 rfl rfl rfl rfl (fun W' kk => bk aA cg rfl (o2.s8 kk).rd rfl (by omega)) (am 23 rfl rfl rfl rfl (fun W' kk => dT iI rfl (by first | exact Rd.s8 ‹_› kk | exact Rd.s8 (Own.rd ‹_›) kk | exact Rd.s8 (Rd.s8 ‹_› hB) kk | exact Rd.s8 (Own.rd (Own.s8 ‹_› hB)) kk) (by omega)) (am 24 rfl rfl rfl rfl (fun W' kk => rh (m := 128) rfl rfl (by decide) (by decide)) (cF 17 25 rfl rfl rfl rfl rfl (fun W' kk => ek rfl rfl) (bz (a7 (bk aA cg rfl o1.rd rfl (by omega)) rfl (ae (eY (u := .int .u8 _) cg rfl rfl rfl o1 (by rw [bw, bJ]; decide)) ?_))))))
 rintro _ w99 ⟨ow2, k99, z99⟩
 replace hB := hB.new k99 (fun x hx => .inl (Nat.le_trans gl_o1 (o1.blk x hx).1))
 rw [iG (fz (k := .u8) rfl rfl)] at ow2
 refine a6 (a9 [(4, _)] ⟨rfl, trivial⟩ (a5 (aZ (ogm rfl rfl (oga rfl rfl (a6 (bG hfin Tryz.results21 rfl ?_)))))))
 exact ⟨(by unfold OwnB encB; rw [List.length_set]; exact ow2.lo gl_o1), hB⟩
attribute [local irreducible] encB
theorem qL (p q : Nat → Int) (X1 Y1 Z1 T1 X2 Y2 Z2 T2 : Fp) (hp : PtEl p X1 Y1 Z1 T1) (hz1 : Z1 ≠ 0) (hq : PtEl q X2 Y2 Z2 T2) (hz2 : Z2 ≠ 0) (w : World) : Rets Tryz.prog 28 [.agg (iv .u64 20 p).toArray, .agg (iv .u64 20 q).toArray] w (fun v w' => v = .bool (decide (encB (X1 * inv Z1) (Y1 * inv Z1) = encB (X2 * inv Z2) (Y2 * inv Z2))) ∧ Keep [] w w') := by
 have hB : Keep [] w w := Keep.refl _ _
 refine ac Tryz.func28 rfl (by decide) Tryz.ntmps28 rfl (fun fin _ hfin => a5 (aZ (ad (bc (cs := [.int .u64 (p 0), .int .u64 (p 1), .int .u64 (p 2), .int .u64 (p 3), .int .u64 (p 4), .int .u64 (p 5), .int .u64 (p 6), .int .u64 (p 7), .int .u64 (p 8), .int .u64 (p 9), .int .u64 (p 10), .int .u64 (p 11), .int .u64 (p 12), .int .u64 (p 13), .int .u64 (p 14), .int .u64 (p 15), .int .u64 (p 16), .int .u64 (p 17), .int .u64 (p 18), .int .u64 (p 19)]) rfl rfl) rfl ?_)))
 rintro _ w1 ⟨b1, rfl, eb1, hb1, k1, z1⟩
 replace hB := hB.trans k1
 clear eb1 z1
 refine ad (bc (cs := [.int .u64 (q 0), .int .u64 (q 1), .int .u64 (q 2), .int .u64 (q 3), .int .u64 (q 4), .int .u64 (q 5), .int .u64 (q 6), .int .u64 (q 7), .int .u64 (q 8), .int .u64 (q 9), .int .u64 (q 10), .int .u64 (q 11), .int .u64 (q 12), .int .u64 (q 13), .int .u64 (q 14), .int .u64 (q 15), .int .u64 (q 16), .int .u64 (q 17), .int .u64 (q 18), .int .u64 (q 19)]) rfl rfl) rfl ?_
 rintro _ w2 ⟨b2, rfl, eb2, hb2, k2, z2⟩
 obtain ⟨hB, hb1⟩ := bN k2 hB hb1
 clear eb2 z2
 refine oga rfl rfl (a6 (a5 (bf 5 [0, 2, 1, 3, 4] [1, 3, 4] [] mixed [(2, _), (3, _), (4, _)] ⟨rfl, rfl, rfl, trivial⟩ (by decide +kernel) rfl (fun w3 k3 => ?_))))
 obtain ⟨hB, hb1, hb2⟩ := ca k3 hB hb1 hb2
 refine am 2 rfl rfl rfl rfl (fun W' kk => aa (cs' := [_, _, _, _, _, _, _, _, _, _, _, _, _, _, _, _, _, _, _, _]) dd bx rfl (Bk.s8 hb1 kk) rfl rfl) (am 3 rfl rfl rfl rfl (fun W' kk => aa (cs' := [_, _, _, _, _, _, _, _, _, _, _, _, _, _, _, _, _, _, _, _]) dd bx rfl (Bk.s8 hb2 kk) rfl rfl) (bq [(5, _)] rfl rfl ⟨rfl, trivial⟩ rfl (a8 (vs := [_]) rfl (gJ _ _ _ _ _ ⟨hp.1, hp.2.1, hp.2.2.1, hp.2.2.2⟩ hz1 _)) ?_))
 rintro v1 w4 ⟨o1, k4⟩
 refine ⟨k4, ?_⟩
 replace hB := hB.trans k4
 refine bq [(7, _)] rfl rfl ⟨rfl, trivial⟩ rfl (a8 (vs := [_]) rfl (gJ _ _ _ _ _ ⟨hq.1, hq.2.1, hq.2.2.1, hq.2.2.2⟩ hz2 _)) ?_
 rintro v2 w5 ⟨o2, k5⟩
 refine ⟨k5, ?_⟩
 replace o1 := o1.s8 k5
 replace hB := hB.trans k5
 refine bq [(6, _), (8, _)] rfl rfl ⟨rfl, rfl, trivial⟩ rfl (a8 (vs := [_, _]) rfl (kK _ _ (encB (X1 * inv Z1) (Y1 * inv Z1)) (encB (X2 * inv Z2) (Y2 * inv Z2)) _ o1.rd o2.rd)) ?_
 rintro _ w6 ⟨rfl, k6⟩
 refine ⟨k6, ?_⟩
 replace hB := hB.trans k6
 refine bz (oga rfl rfl (a6 (bG hfin Tryz.results28 rfl ?_)))
 exact ⟨rfl, hB⟩
end Go.Proofs.YtllmbkmghmmhfaaGreatDoor.W
namespace Go.Proofs.YtllmbkmghmmhfaaGreatDoor.W
open Go Go.Eng Go.Byt
open Go.Fld Go.Ed
def mxB (xs : List UInt8) : Nat → Int
 | 0 => gb xs 0
 | i + 1 => if gb xs ((i + 1 : Nat) : Int) > mxB xs i then gb xs ((i + 1 : Nat) : Int) else mxB xs i
theorem rM (xs : List UInt8) : ∀ i, 0 ≤ mxB xs i
 | 0 => (cG xs 0).1
 | i + 1 => by
   have := cG xs ((i + 1 : Nat) : Int)
   have := rM xs i
   unfold mxB; split <;> omega
theorem mE (xs : List UInt8) : ∀ i, mxB xs i = 0 ↔ ∀ j : Nat, j ≤ i → gb xs j = 0
 | 0 => ⟨fun h j hj => by obtain rfl : j = 0 := by omega
                          exact h, fun h => h 0 (Nat.le_refl _)⟩
 | i + 1 => by
   have ih := mE xs i
   have g := cG xs ((i + 1 : Nat) : Int)
   have hn := rM xs i
   constructor
   · intro h j hj
     unfold mxB at h
     by_cases hji : j ≤ i
     · exact ih.1 (by split at h <;> omega) j hji
     · obtain rfl : j = i + 1 := by omega
       split at h <;> omega
   · intro h
     unfold mxB
     rw [h (i + 1) (Nat.le_refl _), ih.2 (fun j hj => h j (by omega))]; rfl
theorem rL {xs : List UInt8} {m i : Int} (h1 : 1 ≤ i) (h : m = mxB xs (i - 1).toNat) : (if gb xs i > m then gb xs i else m) = mxB xs (i + 1 - 1).toNat := by
 subst h
 have e : (i + 1 - 1).toNat = (i - 1).toNat + 1 := by omega
 rw [e, mxB, show (((i - 1).toNat + 1 : Nat) : Int) = i by omega]
theorem rS (v : Value) (xs : List UInt8) (w : World) (hv : RdB w v xs) (hx : 0 < xs.length) : Rets Tryz.prog 63 [v] w (fun r w' => r = .int .u8 (mxB xs ((xs.length : Int) - 1).toNat) ∧ Keep [] w w') := by
 have hB : Keep [] w w := Keep.refl _ _
 have hle := hv.le
 refine ac Tryz.func63 rfl (by decide) Tryz.ntmps63 rfl (fun fin _ hfin => a5 (aZ (oga rfl rfl (a6 (a5 (a5 (aZ (ogm rfl rfl (a7 (cB aA rfl (by first | assumption | exact Own.rd ‹_› | exact Rd.s8 ‹_› hB | exact Own.rd (Own.s8 ‹_› hB))) rfl (a7 (bd rfl rfl) rfl (a6 (ci rfl (by omega) (af (a5 (aZ (ogm rfl rfl (a7 (bk aA cg rfl (by first | assumption | exact Own.rd ‹_› | exact Rd.s8 ‹_› hB | exact Own.rd (Own.s8 ‹_› hB)) rfl (by omega)) rfl (a7 (dT iI rfl (by first | assumption | exact Own.rd ‹_› | exact Rd.s8 ‹_› hB | exact Own.rd (Own.s8 ‹_› hB)) (by omega)) rfl (oga rfl rfl (a6 (a5 (a5 (aZ (oga rfl rfl (a6 (ab (bK (Γ := Int × Int) (fun ⟨i, m⟩ => [(0, v), (3, .int .u8 m), (4, .int .i64 i)]) (fun ⟨i, m⟩ W => 1 ≤ i ∧ i ≤ xs.length ∧ m = mxB xs (i - 1).toNat ∧ Keep [] w W) (fun ⟨i, m⟩ => (xs.length - i).toNat) ⟨1, gb xs 0⟩ ⟨rfl, rfl, rfl, trivial⟩ (⟨by decide, by omega, rfl, hB⟩) ?_)))))))))))))))))))))))))))
 rintro ⟨i, m⟩ w1 ⟨hi0, hi1, hall, hB⟩
 refine a9 [(0, v), (3, .int .u8 m), (4, .int .i64 i)] ⟨rfl, rfl, rfl, trivial⟩ (a5 (a5 (aZ (ogm rfl rfl (ogm rfl rfl (a7 (cB aA rfl (by first | assumption | exact Own.rd ‹_› | exact Rd.s8 ‹_› hB | exact Own.rd (Own.s8 ‹_› hB))) rfl (a7 (bd rfl rfl) rfl (a6 (bT rfl (fun hc1 => ?_) (fun hc1 => ?_))))))))))
 ·
  refine af (a5 (ab (aZ (ogm rfl rfl (ogm rfl rfl (ogm rfl rfl (a7 (bk aA cg rfl (by first | assumption | exact Own.rd ‹_› | exact Rd.s8 ‹_› hB | exact Own.rd (Own.s8 ‹_› hB)) rfl (by omega)) rfl (a7 (dT iI rfl (by first | assumption | exact Own.rd ‹_› | exact Rd.s8 ‹_› hB | exact Own.rd (Own.s8 ‹_› hB)) (by omega)) rfl (a7 (g_max rfl rfl) rfl (oga rfl rfl (a6 (bZ (aZ (ogm rfl rfl (a7 (bi rfl rfl (by omega)) rfl (oga rfl rfl (a6 (bM (Γ := Int × Int) ⟨i + 1, _⟩ ⟨rfl, rfl, rfl, trivial⟩ (by (try dsimp only); omega) (⟨by omega, by omega, rL hi0 hall, hB⟩)))))))))))))))))))
 ·
  refine bF rfl (a5 (aZ (ogm rfl rfl (oga rfl rfl (a6 (bG hfin Tryz.results63 rfl ?_))))))
  exact ⟨by rw [hall, show i - 1 = (xs.length : Int) - 1 by omega], hB⟩
theorem p9 (x y : Int) (hx : In x 0 18446744073709551615) (hy : In y 0 18446744073709551615) (w : World) : Rets Tryz.prog 107 [.int .u64 x, .int .u64 y] w (fun v w' => v = .tuple #[.int .u64 (x * y / 18446744073709551616), .int .u64 (x * y % 18446744073709551616)] ∧ w = w') := by
 refine ac Tryz.func107 rfl (by decide) Tryz.ntmps107 rfl (fun fin _ hfin => a5 (aZ (oga rfl rfl (oga rfl rfl (a6 (a5 (jk rfl (af (a5 (aZ (ogm rfl rfl (ogm rfl rfl (ad (a8 (vs := [_, _]) rfl (iV _ _ (In.wk hx rfl) (In.wk hy rfl) _)) rfl ?_)))))))))))))
 rintro _ _ ⟨rfl, rfl⟩
 refine ogm rfl rfl (an (e' := (x * y / 18446744073709551616)) (lo := 0) (hi := 18446744073709551614) (bH (vs := [_, _]) rfl rfl) (rfl) (In.wk (bl (cP hx hy (by decide) (by decide)) (by decide)) rfl) rfl (fun z1 h1 r1 => an (e' := (x * y % 18446744073709551616)) (lo := 0) (hi := 18446744073709551615) (bH (vs := [_, _]) rfl rfl) (rfl) (In.wk (bb _ (by decide)) rfl) rfl (fun z2 h2 r2 => oga rfl rfl (oga rfl rfl (a6 (a5 (aZ (ogm rfl rfl (ogm rfl rfl (oga rfl rfl (oga rfl rfl (a6 (eS hfin Tryz.results107 rfl rfl ?_)))))))))))))
 simp only [Eqn, In] at h1 r1 h2 r2
 exact ⟨by subst_vars; rfl, rfl⟩
theorem rO (w : World) : Rets Tryz.prog 107 [.int .u64 1, .int .u64 32] w (fun v w' => v = .tuple #[.int .u64 0, .int .u64 32] ∧ w = w') := p9 1 32 (by decide) (by decide) w
def repN (b : UInt8) (n : Nat) : List UInt8 := List.replicate n b ++ List.replicate (32 - n) 0
theorem lu (b : UInt8) (n : Nat) (h : n ≤ 32) : (repN b n).length = 32 := by unfold repN; simp; omega
theorem qu {n : Nat} {f : Fr} {w : World} {ty : TypeId} {x y : Operand} {lo nn : Nat} {q : Value} {b : UInt8} (hx : f.ev x = some (cut q nn 32 1)) (hy : f.ev y = some (cut q 0 nn 1)) (ho : Own w lo 5 1 q 32 (bv (repN b nn))) (h1 : 1 ≤ nn) (h2 : nn < 32) :
   Does Tryz.prog n f w (.call { callee := .builtin .copy, args := #[x, y], argTypes := #[22, 22] }) ty
     (fun r w' => r = .int .i64 ((min nn (32 - nn) : Nat) : Int) ∧ Own w' lo 5 1 q 32 (bv (repN b (nn + min nn (32 - nn)))) ∧ Keep (vblk q) w w' ∧ w'.heap.size = w.heap.size) := by
 have hr : RdB w q (repN b nn) := by unfold RdB; rw [lu _ _ (by omega)]; exact ho.rd
 have hc := hr.cutB (l := 0) (hi := nn) (by omega) (by rw [lu _ _ (by omega)]; omega)
 have e1 : ((repN b nn).drop 0).take (nn - 0) = List.replicate nn b := by unfold repN; simp
 rw [e1] at hc
 refine (d_cpAt aA cg hx ho (by omega) hy hc (lN _) (s := min nn (32 - nn)) (by rw [List.length_replicate]) (by omega)).mono ?_
 rintro r w' ⟨rfl, o, k, z⟩
 refine ⟨rfl, ?_, k, z⟩
 have e2 : (bv (repN b nn)).take nn ++ (bv (List.replicate nn b)).take (min nn (32 - nn)) ++ (bv (repN b nn)).drop (nn + min nn (32 - nn)) = bv (repN b (nn + min nn (32 - nn))) := by
   rw [lM, lM, oZ, ← ed, ← ed]
   congr 1
   unfold repN
   rw [List.take_left' (by simp), List.take_replicate, List.drop_append, List.length_replicate, List.drop_eq_nil_of_le (by simp), List.nil_append, List.drop_replicate, Nat.min_eq_left (show min nn (32 - nn) ≤ nn by omega), ← List.replicate_append_replicate, show nn + min nn (32 - nn) - nn = min nn (32 - nn) by omega, show 32 - nn - min nn (32 - nn) = 32 - (nn + min nn (32 - nn)) by omega]
 rw [e2] at o; exact o
theorem mz (v : Value) (b : UInt8) (w : World) (hv : Rd w 1 v 1 (bv [b])) : Rets Tryz.prog 86 [v, .int .i64 32] w (fun r w' => Own w' w.heap.size 5 1 r 32 (bv (repN b 32)) ∧ Keep [] w w') := by
  have hB : Keep [] w w := Keep.refl _ _
  refine ac Tryz.func86 rfl (by decide) Tryz.ntmps86 rfl (fun fin _ hfin => a5 (aZ (oga rfl rfl (a6 (a5 (a5 (aZ (ogm rfl rfl ?_))))))))
  refine a7 (bd rfl rfl) rfl (a6 (ci rfl (by decide) (af (a5 (aZ (ogm rfl rfl (a7 (cB aA rfl (by first | assumption | exact Own.rd (by assumption) | exact Rd.s8 (by assumption) hB | exact Own.rd (Own.s8 (by assumption) hB))) rfl (a7 (bC (j := 1) (eb (by rw [aJ]; rfl) aS rfl) (by decide)) rfl ?_))))))))
  refine ogm rfl rfl (a7 (bC (j := 32) (eb (by rw [aJ]; rfl) aS rfl) (by decide)) rfl (ad (a8 (vs := [_, _]) rfl (rO _)) rfl ?_))
  rintro _ _ ⟨rfl, rfl⟩
  refine ogm rfl rfl (a7 (bH (vs := [_, _]) rfl rfl) rfl (a7 (bH (vs := [_, _]) rfl rfl) rfl (oga rfl rfl (oga rfl rfl (a6 (a5 (a5 (aZ ?_))))))))
  refine ogm rfl rfl (a7 (mV rfl rfl) rfl (ogm rfl rfl (fa 23 false rfl (fun c1 hgc1 => dQ [(6, _)] (dD rfl rfl rfl hgc1) ⟨fE rfl, trivial⟩ (fun hw1 => bY rfl) rfl (dQ [(24, _)] (dD rfl rfl rfl hgc1) ⟨dJ rfl, trivial⟩ (fun hw2 => mV rfl rfl) rfl (a7 (fk rfl rfl hgc1) rfl (a6 (lZ rfl (by decide) ?_))))))))
  refine af (a5 (aZ (ogm rfl rfl (a7 (bC (j := 32) (eb (by rw [aS]; rfl) aJ rfl) (by decide)) rfl (ad (nZ aA cg rfl rfl (by omega) (by constructor <;> omega)) rfl ?_)))))
  rintro q w1 ⟨o1, _, _, k1, _⟩
  have o2 : Own w1 w.heap.size 5 1 q 32 (List.replicate 32 (.int .u8 0)) := o1.lo hB.size
  clear o1
  replace hv := hv.s8 k1
  replace hB := hB.trans k1
  obtain ⟨g, c, cur, rfl, hg, _, hcap1, hcap2, _, _⟩ := o2.raw (by simp)
  refine oga rfl rfl (a6 (a5 (aZ (ogm rfl rfl (ogm rfl rfl (ad (d_cp aA cg rfl o2 rfl hv (lN _) rfl) rfl ?_))))))
  rintro _ w2 ⟨rfl, o3, k2, z2⟩
  replace hB := hB.new k2 (nw hg)
  clear hv
  refine oga rfl rfl (a6 (a5 (ab (bK (Γ := Nat) (fun i => [(7, .slice (some ⟨g, 0, none⟩) 32 c), (8, .int .i64 (i : Int))]) (fun i W => 1 ≤ i ∧ i ≤ 32 ∧ Own W w.heap.size 5 1 (.slice (some ⟨g, 0, none⟩) 32 c) 32 (bv (repN b i)) ∧ Keep [] w W) (fun i => 32 - i) 1 ⟨rfl, rfl, trivial⟩ (⟨by decide, by decide, o3, hB⟩) ?_))))
  rintro i w2 ⟨hi0, hi1, o4, hB⟩
  refine a9 [(7, .slice (some ⟨g, 0, none⟩) 32 c), (8, .int .i64 (i : Int))] ⟨rfl, rfl, trivial⟩ (a5 (a5 (aZ (ogm rfl rfl (ogm rfl rfl (a7 (cB aA rfl (by first | assumption | exact Own.rd (by assumption) | exact Rd.s8 (by assumption) hB | exact Own.rd (Own.s8 (by assumption) hB))) rfl (a7 (bd rfl rfl) rfl (a6 ?_))))))))
  refine bT rfl (fun hc1 => ?_) (fun hc1 => ?_)
  · -- yes
    refine af (ab (bW 8 [0, 1, 2, 3, 4, 5, 6, 7] [7] [g] [] mixed [(7, _), (8, _)] ⟨rfl, rfl, trivial⟩ (by decide +kernel) (by decide) (by decide) ?_ (fun x hx => (List.mem_singleton.1 hx) ▸ (o4.blk g (by simp [vblk])).2) rfl (fun w5 k5 => ?_)))
    · intro q hq; cases hq
    replace o4 := o4.s8 k5
    replace hB := hB.trans k5
    refine bu 8 rfl rfl rfl rfl rfl (bu 7 rfl rfl rfl rfl rfl (bu 8 rfl rfl rfl rfl rfl (cn 39 40 rfl rfl rfl rfl rfl (fun W' kk => g_slv aA cg rfl hcap2 hcap1 (.inr ⟨_, _, rfl, rfl⟩) (.inl ⟨rfl, rfl⟩) (by omega)) (bu 7 rfl rfl rfl rfl rfl (bu 8 rfl rfl rfl rfl rfl (cn 42 43 rfl rfl rfl rfl rfl (fun W' kk => g_slv aA cg rfl hcap2 hcap1 (.inl ⟨rfl, rfl⟩) (.inr ⟨_, _, rfl, rfl⟩) (by omega)) (bo [(41, _), (44, _)] rfl rfl ⟨rfl, rfl, trivial⟩ rfl (fun w6 k6 => ?_))))))))
    refine (qu rfl rfl (o4.s8 k6) hi0 (by omega)).mono ?_
    rintro _ w6' ⟨rfl, o5, k6', z6⟩
    replace hB := (hB.trans k6).new k6' (nw hg)
    refine ⟨k6', nox, ?_⟩
    clear o4
    refine cC (fun w7 k7 => ?_)
    replace o5 := o5.s8 k7
    replace hB := hB.trans k7
    refine bX (a7 (bi rfl rfl (by omega)) rfl (oga rfl rfl (a6 (bZ (bM (Γ := Nat) (i + min i (32 - i)) ⟨rfl, rfl, trivial⟩ (by (try dsimp only); omega) (⟨by omega, by omega, o5, hB⟩))))))
  · -- no
    refine bF rfl (a5 (aZ (ogm rfl rfl (oga rfl rfl (a6 (bG hfin Tryz.results86 rfl ?_))))))
    obtain rfl : i = 32 := by omega
    exact ⟨o4, hB⟩
attribute [local irreducible] encB
def decLow (xs : List UInt8) : List UInt8 := xs.set 31 (UInt8.ofNat (bits .andNot .u8 (gb xs 31) 128).toNat)
def decY (xs : List UInt8) : Fp := fp (leI (decLow xs))
def decOdd (xs : List UInt8) : Bool := decide (gb xs 31 / 128 = 1)
def decU (y : Fp) : Fp := y * y - fp 1
def decV (y : Fp) : Fp := d * (y * y) + fp 1
def decE (xs : List UInt8) : Int := if xs.length ≠ 32 then 1 else if fpB (decY xs) ≠ decLow xs then 30 else if (!rootOk (decU (decY xs)) (decV (decY xs)) || (decOdd xs && decide (rootF (decU (decY xs)) (decV (decY xs)) = 0))) = true then 30 else 0
def decX (xs : List UInt8) : Fp := if decOdd xs = true then 0 - rootF (decU (decY xs)) (decV (decY xs)) else rootF (decU (decY xs)) (decV (decY xs))
theorem ja (xs : List UInt8) (hx : xs.length = 32) : (decLow xs).length = 32 := by unfold decLow; rw [List.length_set, hx]
theorem ff (a : Fp) : fp (leI (fpB a)) = a := by
 have h := a.isLt
 have hp : (P : Int) < 256 ^ 32 := by decide +kernel
 unfold fpB
 rw [hC 32 (a.val : Int) (by omega) (by omega), fp_self]
theorem mS (a : Fp) : (∀ j : Nat, j ≤ 31 → gb (fpB a) j = 0) ↔ a = 0 := by
 constructor
 · intro h
   refine oQ (List.ext_getElem (by rw [bJ, bJ]) (fun j h1 h2 => ?_))
   have g := h j (by rw [bJ] at h1; omega)
   have g0 : gb (fpB (0 : Fp)) j = 0 := by
     have hj : j < 32 := by rwa [bJ] at h1
     have : ∀ j : Nat, j < 32 → gb (fpB (0 : Fp)) (j : Int) = 0 := by decide +kernel
     exact this j hj
   unfold gb at g g0
   rw [Int.toNat_natCast, List.getD_eq_getElem?_getD, List.getElem?_eq_getElem h1] at g
   rw [Int.toNat_natCast, List.getD_eq_getElem?_getD, List.getElem?_eq_getElem h2] at g0
   simp only [Option.getD_some] at g g0
   exact UInt8.toNat_inj.1 (by omega)
 · rintro rfl
   have : ∀ j : Nat, j < 32 → gb (fpB (0 : Fp)) (j : Int) = 0 := by decide +kernel
   intro j hj; exact this j (by omega)
theorem mx_fpB (a : Fp) : decide (mxB (fpB a) (((fpB a).length : Int) - 1).toNat = 0) = decide (a = 0) := by
 rw [bJ]
 exact decide_eq_decide.2 ((mE _ _).trans (mS a))
theorem sC {xs : List UInt8} (hx : xs.length = 32) (h : ¬ fpB (fp (leI (decLow xs))) = decLow xs) : decE xs = 30 := by
 unfold decE decY; rw [if_neg (by omega), if_pos h]
theorem sD {xs : List UInt8} {z : Int} {c : Bool} {U V : Fp} (hz : Eqn z (gb xs 31 / 128)) (hU : U = decU (decY xs)) (hV : V = decV (decY xs))
   (h : (!rootOk (fp (leI (fpB U))) (fp (leI (fpB V))) || decide (z = 1) && decide (mxB (fpB (rootF (fp (leI (fpB U))) (fp (leI (fpB V))))) (((fpB (rootF (fp (leI (fpB U))) (fp (leI (fpB V))))).length : Int) - 1).toNat = 0)) = c) :
   (!rootOk (decU (decY xs)) (decV (decY xs)) || (decOdd xs && decide (rootF (decU (decY xs)) (decV (decY xs)) = 0))) = c := by
 unfold Eqn at hz
 subst hz hU hV
 rw [mx_fpB, ff, ff] at h
 exact h
theorem sB {xs : List UInt8} {z : Int} (hx : xs.length = 32) (h1 : ¬¬ fpB (fp (leI (decLow xs))) = decLow xs) (h : (!rootOk (decU (decY xs)) (decV (decY xs)) || (decOdd xs && decide (rootF (decU (decY xs)) (decV (decY xs)) = 0))) = true) : decE xs = 30 := by
 have h1 : ¬ fpB (decY xs) ≠ decLow xs := h1
 unfold decE; rw [if_neg (by omega), if_neg h1, if_pos h]
theorem lI {xs : List UInt8} {z : Int} (hx : xs.length = 32) (h1 : ¬¬ fpB (fp (leI (decLow xs))) = decLow xs) (h : (!rootOk (decU (decY xs)) (decV (decY xs)) || (decOdd xs && decide (rootF (decU (decY xs)) (decV (decY xs)) = 0))) = false) : decE xs = 0 := by
 have h1 : ¬ fpB (decY xs) ≠ decLow xs := h1
 unfold decE; rw [if_neg (by omega), if_neg h1, if_neg (by rw [h]; decide)]
theorem dec_xT {xs : List UInt8} {z : Int} {U V : Fp} (hz : Eqn z (gb xs 31 / 128)) (hU : U = decU (decY xs)) (hV : V = decV (decY xs)) (h : z = 1) : decX xs = 0 - fp (leI (fpB (rootF (fp (leI (fpB U))) (fp (leI (fpB V)))))) := by
 unfold Eqn at hz
 subst hU hV
 rw [ff, ff, ff]
 unfold decX
 rw [if_pos (by unfold decOdd; rw [← hz]; exact decide_eq_true h)]
theorem dec_xF {xs : List UInt8} {z : Int} {U V : Fp} (hz : Eqn z (gb xs 31 / 128)) (hU : U = decU (decY xs)) (hV : V = decV (decY xs)) (h : ¬ z = 1) : decX xs = fp (leI (fpB (rootF (fp (leI (fpB U))) (fp (leI (fpB V)))))) := by
 unfold Eqn at hz
 subst hU hV
 rw [ff, ff, ff]
 unfold decX
 rw [if_neg (by unfold decOdd; rw [← hz, decide_eq_false h]; decide)]
theorem ji (v : Value) (xs : List UInt8) (w : World) (hv : RdB w v xs) (hx : xs.length = 32) : Rets Tryz.prog 25 [v] w (fun v w' => ∃ p, v = .tuple #[.agg (iv .u64 20 p).toArray, .int .i64 (decE xs)] ∧ (decE xs = 0 → PtEl p (decX xs) (decY xs) (fp 1) (decX xs * decY xs)) ∧ (decE xs ≠ 0 → p = fun _ => 0) ∧ Keep [] w w') := by
 have hB : Keep [] w w := Keep.refl _ _
 refine ac Tryz.func25 rfl (by decide) Tryz.ntmps25 rfl (fun fin _ hfin => a5 (aZ (ad (aj bx) rfl ?_)))
 rintro _ w1 ⟨b1, rfl, eb1, hb1, k1, z1⟩
 have ge_b1 : w.heap.size ≤ b1 := by have := hB.size; omega
 replace hB := hB.trans k1
 clear eb1 z1
 refine oga rfl rfl (a6 (a5 (a5 (aZ (ogm rfl rfl (a7 (cB aA rfl (by first | assumption | exact Own.rd ‹_› | exact Rd.s8 ‹_› hB | exact Own.rd (Own.s8 ‹_› hB))) rfl (a7 (dt rfl rfl) rfl (a6 (ci rfl (by omega) (af (a5 (aZ (ogm rfl rfl (a7 (bk aA cg rfl (by first | assumption | exact Own.rd ‹_› | exact Rd.s8 ‹_› hB | exact Own.rd (Own.s8 ‹_› hB)) rfl (by omega)) rfl (a7 (dT iI rfl (by first | assumption | exact Own.rd ‹_› | exact Rd.s8 ‹_› hB | exact Own.rd (Own.s8 ‹_› hB)) (by omega)) rfl (an (e' := (gb xs (31)) / 128) (lo := 0) (hi := 1) (cI (m := 128) rfl rfl (by decide) rfl) (rfl) (In.wk (bl (cG xs (31)) (by decide)) rfl) rfl (fun z2 h1 r1 => a7 (fS rfl rfl) rfl (oga rfl rfl (a6 (a5 (aZ (ogm rfl rfl (ad (a8 (vs := [_]) rfl (kL _ xs _ (by first | assumption | exact Own.rd ‹_› | exact Rd.s8 ‹_› hB | exact Own.rd (Own.s8 ‹_› hB)) (by omega))) rfl ?_)))))))))))))))))))))))
 rintro v1 w2 ⟨o1, k2, _⟩
 have gl_o1 := hB.size
 have sb_b1_o1 := fun x hx => (show x ≠ b1 from by have h1 := (o1.blk x hx).1; have h2 := hb1.lt; omega)
 obtain ⟨hB, hb1⟩ := bN k2 hB hb1
 refine oga rfl rfl (a6 (a9 [(2, _), (4, _), (5, _)] ⟨rfl, rfl, rfl, trivial⟩ (a5 (aZ (ogm rfl rfl (a7 (bk aA cg rfl o1.rd rfl (by omega)) rfl (a7 (dT iI rfl (by first | assumption | exact Own.rd ‹_› | exact Rd.s8 ‹_› hB | exact Own.rd (Own.s8 ‹_› hB)) (by omega)) rfl (a7 (jZ rfl rfl) rfl (a7 (bk aA cg rfl o1.rd rfl (by omega)) rfl (ae (eY (u := .int .u8 _) cg rfl rfl rfl o1 (by rw [bw, hx]; decide)) ?_))))))))))
 rintro _ w99 ⟨ow2, k99, z99⟩
 replace hB := hB.new k99 (fun x hx => .inl (Nat.le_trans gl_o1 (o1.blk x hx).1))
 replace ow2 : OwnB w99 w.heap.size v1 (decLow xs) := by unfold OwnB decLow; rw [List.length_set, ← iG (lO (k := .u8) rfl _ _ _)]; exact ow2.lo gl_o1
 replace hb1 := hb1.keep k99 (fun hm => sb_b1_o1 _ hm rfl)
 refine a6 (a5 (aZ (ogm rfl rfl (ad (a8 (vs := [_]) rfl (j0 _ (decLow xs) _ ow2.rd (ja xs hx))) rfl ?_))))
 rintro _ w3 ⟨hh1, rfl, E1, k3⟩
 replace hb1 := hb1.s8 k3
 replace ow2 := ow2.s8 k3
 replace hB := hB.trans k3
 refine ogm rfl rfl (a7 (bH (vs := [_, _]) rfl rfl) rfl (a7 (bH (vs := [_, _]) rfl rfl) rfl (ad (aj bD) rfl ?_)))
 rintro _ w4 ⟨b2, rfl, eb2, hb2, k4, z3⟩
 have ge_b2 : w.heap.size ≤ b2 := by have := hB.size; omega
 have ne_b1_b2 : b1 ≠ b2 := by have := hb1.lt; omega
 have sb_b2_ow2 := fun x hx => (show x ≠ b2 from by have := (ow2.blk x hx).2; omega)
 replace hb1 := hb1.s8 k4
 replace ow2 := ow2.s8 k4
 replace hB := hB.trans k4
 clear eb2 z3
 refine ae (bB bD rfl rfl rfl ai hb2 rfl) ?_
 rintro _ w5 ⟨hb3, k5, z4⟩
 replace hb1 := hb1.keep k5 (nm ne_b1_b2)
 replace ow2 := ow2.keep k5 (fun x hx hm => sb_b2_ow2 x hx (List.mem_singleton.1 hm))
 replace hB := hB.new k5 (nw ge_b2)
 clear z4
 replace hb3 := di (g := hh1) hb3
 refine oga rfl rfl (a6 (a9 [(2, _), (4, _), (5, _), (6, _)] ⟨rfl, rfl, rfl, rfl, trivial⟩ (a5 (a5 (aZ (a7 (aa (cs' := [_, _, _, _, _]) cA bD rfl hb3 rfl rfl) rfl (ad (a8 (vs := [_]) rfl (er _ _ E1 _)) rfl ?_)))))))
 rintro v2 w6 ⟨o2, k6⟩
 replace hb1 := hb1.s8 k6
 replace ow2 := ow2.s8 k6
 obtain ⟨hB, hb3⟩ := bN k6 hB hb3
 refine ogm rfl rfl (ad (a8 (vs := [_, _]) rfl (kK _ _ (fpB (fp (leI (decLow xs)))) (decLow xs) _ o2.rd ow2.rd)) rfl ?_)
 rintro _ w7 ⟨rfl, k7⟩
 replace hb1 := hb1.s8 k7
 replace ow2 := ow2.s8 k7
 obtain ⟨hB, hb3⟩ := bN k7 hB hb3
 refine a7 (et rfl) rfl (a6 (bT rfl (fun hc1 => ?_) (fun hc1 => ?_)))
 ·
  refine a5 (aZ (a7 (dR (idx := []) (xs := []) (vs := []) (css := []) (out := [_, _, _, _, _, _, _, _, _, _, _, _, _, _, _, _, _, _, _, _]) ly bx rfl rfl trivial rfl rfl) rfl (ae (bB bx rfl rfl rfl (by simp only [List.forall_mem_cons]; refine ⟨rfl, rfl, rfl, rfl, rfl, rfl, rfl, rfl, rfl, rfl, rfl, rfl, rfl, rfl, rfl, rfl, rfl, rfl, rfl, rfl, fun v hv => by cases hv⟩) hb1 rfl) ?_)))
  rintro _ w8 ⟨hb4, k8, z5⟩
  replace ow2 := ow2.keep k8 (fun x hx hm => sb_b1_o1 x hx (List.mem_singleton.1 hm))
  replace hb3 := hb3.keep k8 (nm (Ne.symm ne_b1_b2))
  replace hB := hB.new k8 (nw ge_b1)
  clear z5
  replace hb4 : Bk w8 b1 _ [.int .u64 0, .int .u64 0, .int .u64 0, .int .u64 0, .int .u64 0, .int .u64 0, .int .u64 0, .int .u64 0, .int .u64 0, .int .u64 0, .int .u64 0, .int .u64 0, .int .u64 0, .int .u64 0, .int .u64 0, .int .u64 0, .int .u64 0, .int .u64 0, .int .u64 0, .int .u64 0] := hb4
  refine oga rfl rfl (a6 (cS hfin Tryz.results25 rfl (ak dd bx hb4 rfl) rfl ?_))
  have he := sC hx hc1
  exact ⟨fun _ => 0, by rw [he]; rfl, fun h => by rw [he] at h; exact absurd h (by decide), fun _ => rfl, hB⟩
 ·
  refine af (a5 (aZ (ad (a8 (vs := [_]) rfl (i1 _ (by decide) _)) rfl ?_)))
  rintro _ w9 ⟨hh2, rfl, E2, k9⟩
  replace hb1 := hb1.s8 k9
  replace ow2 := ow2.s8 k9
  obtain ⟨hB, hb3⟩ := bN k9 hB hb3
  refine ad (aj bD) rfl ?_
  rintro _ w10 ⟨b3, rfl, eb3, hb5, k10, z6⟩
  have ge_b3 : w.heap.size ≤ b3 := by have := hB.size; omega
  have ne_b1_b3 : b1 ≠ b3 := by have := hb1.lt; omega
  have sb_b3_ow2 := fun x hx => (show x ≠ b3 from by have := (ow2.blk x hx).2; omega)
  have ne_b2_b3 : b2 ≠ b3 := by have := hb3.lt; omega
  replace hb1 := hb1.s8 k10
  replace ow2 := ow2.s8 k10
  obtain ⟨hB, hb3⟩ := bN k10 hB hb3
  clear eb3 z6
  refine ae (bB bD rfl rfl rfl ai hb5 rfl) ?_
  rintro _ w11 ⟨hb6, k11, z7⟩
  replace hb1 := hb1.keep k11 (nm ne_b1_b3)
  replace ow2 := ow2.keep k11 (fun x hx hm => sb_b3_ow2 x hx (List.mem_singleton.1 hm))
  replace hb3 := hb3.keep k11 (nm ne_b2_b3)
  replace hB := hB.new k11 (nw ge_b3)
  clear z7
  replace hb6 := di (g := hh2) hb6
  refine a6 (a5 (aZ (a7 (aa (cs' := [_, _, _, _, _]) cA bD rfl hb3 rfl rfl) rfl (a7 (aa (cs' := [_, _, _, _, _]) cA bD rfl hb3 rfl rfl) rfl (ad (a8 (vs := [_, _]) rfl (bt _ _ _ _ E1 E1 _)) rfl ?_)))))
  rintro _ w12 ⟨hh3, rfl, E3, k12⟩
  replace hb1 := hb1.s8 k12
  replace ow2 := ow2.s8 k12
  obtain ⟨hB, hb3, hb6⟩ := ca k12 hB hb3 hb6
  refine ad (aj bD) rfl ?_
  rintro _ w13 ⟨b4, rfl, eb4, hb7, k13, z8⟩
  have ge_b4 : w.heap.size ≤ b4 := by have := hB.size; omega
  have ne_b1_b4 : b1 ≠ b4 := by have := hb1.lt; omega
  have sb_b4_ow2 := fun x hx => (show x ≠ b4 from by have := (ow2.blk x hx).2; omega)
  have ne_b2_b4 : b2 ≠ b4 := by have := hb3.lt; omega
  have ne_b3_b4 : b3 ≠ b4 := by have := hb6.lt; omega
  replace hb1 := hb1.s8 k13
  replace ow2 := ow2.s8 k13
  obtain ⟨hB, hb3, hb6⟩ := ca k13 hB hb3 hb6
  clear eb4 z8
  refine ae (bB bD rfl rfl rfl ai hb7 rfl) ?_
  rintro _ w14 ⟨hb8, k14, z9⟩
  replace hb1 := hb1.keep k14 (nm ne_b1_b4)
  replace ow2 := ow2.keep k14 (fun x hx hm => sb_b4_ow2 x hx (List.mem_singleton.1 hm))
  replace hb3 := hb3.keep k14 (nm ne_b2_b4)
  replace hb6 := hb6.keep k14 (nm ne_b3_b4)
  replace hB := hB.new k14 (nw ge_b4)
  clear z9
  replace hb8 := di (g := hh3) hb8
  refine a6 (a9 [(2, _), (4, _), (6, _), (8, _), (9, _)] ⟨rfl, rfl, rfl, rfl, rfl, trivial⟩ (a5 (bf 17 [0, 1, 5, 7, 2, 3, 4, 6, 8, 9, 10, 11, 12, 13, 14, 15, 16] [2, 3, 4, 6, 8, 9, 10] [] mixed [(9, _), (8, _), (2, _), (4, _), (6, _)] ⟨rfl, rfl, rfl, rfl, rfl, trivial⟩ (by decide +kernel) rfl (fun w15 k15 => ?_))))
  replace hb1 := hb1.s8 k15
  replace ow2 := ow2.s8 k15
  obtain ⟨hB, hb3, hb6, hb8⟩ := dG k15 hB hb3 hb6 hb8
  refine am 9 rfl rfl rfl rfl (fun W' kk => aa (cs' := [_, _, _, _, _]) cA bD rfl (Bk.s8 hb8 kk) rfl rfl) (am 8 rfl rfl rfl rfl (fun W' kk => aa (cs' := [_, _, _, _, _]) cA bD rfl (Bk.s8 hb6 kk) rfl rfl) (am 9 rfl rfl rfl rfl (fun W' kk => aa (cs' := [_, _, _, _, _]) cA bD rfl (Bk.s8 hb8 kk) rfl rfl) (am 8 rfl rfl rfl rfl (fun W' kk => aa (cs' := [_, _, _, _, _]) cA bD rfl (Bk.s8 hb6 kk) rfl rfl) (bq [(46, _), (47, _)] rfl rfl ⟨rfl, rfl, trivial⟩ rfl (a8 (vs := [_, _]) rfl (eH _ _ _ _ E3 E2 _)) ?_))))
  rintro _ w16 ⟨hh4, rfl, E4, k16⟩
  refine ⟨k16, ?_⟩
  replace hb1 := hb1.s8 k16
  replace ow2 := ow2.s8 k16
  obtain ⟨hB, hb3⟩ := bN k16 hB hb3
  refine bq [(48, _)] rfl rfl ⟨rfl, trivial⟩ rfl (a8 (vs := [_]) rfl (er _ _ E4 _)) ?_
  rintro v3 w17 ⟨o3, k17⟩
  refine ⟨k17, ?_⟩
  replace hb1 := hb1.s8 k17
  replace ow2 := ow2.s8 k17
  obtain ⟨hB, hb3⟩ := bN k17 hB hb3
  refine bq [] rfl rfl trivial rfl (a8 (vs := []) rfl (nE _)) ?_
  rintro _ w18 ⟨hh5, rfl, E5, k18⟩
  refine ⟨k18, ?_⟩
  replace hb1 := hb1.s8 k18
  replace ow2 := ow2.s8 k18
  replace hb3 := hb3.s8 k18
  replace o3 := o3.s8 k18
  replace hB := hB.trans k18
  refine bq [(50, _), (51, _)] rfl rfl ⟨rfl, rfl, trivial⟩ rfl (a8 (vs := [_, _]) rfl (bt _ _ _ _ E5 E3 _)) ?_
  rintro _ w19 ⟨hh6, rfl, E6, k19⟩
  refine ⟨k19, ?_⟩
  replace hb1 := hb1.s8 k19
  replace ow2 := ow2.s8 k19
  replace hb3 := hb3.s8 k19
  replace o3 := o3.s8 k19
  replace hB := hB.trans k19
  refine bq [(52, _), (53, _)] rfl rfl ⟨rfl, rfl, trivial⟩ rfl (a8 (vs := [_, _]) rfl (dp _ _ _ _ E6 E2 _)) ?_
  rintro _ w20 ⟨hh7, rfl, E7, k20⟩
  refine ⟨k20, ?_⟩
  replace hb1 := hb1.s8 k20
  replace ow2 := ow2.s8 k20
  replace hb3 := hb3.s8 k20
  replace o3 := o3.s8 k20
  replace hB := hB.trans k20
  refine bq [(54, _)] rfl rfl ⟨rfl, trivial⟩ rfl (a8 (vs := [_]) rfl (er _ _ E7 _)) ?_
  rintro v4 w21 ⟨o4, k21⟩
  refine ⟨k21, ?_⟩
  replace hb1 := hb1.s8 k21
  replace ow2 := ow2.s8 k21
  replace hb3 := hb3.s8 k21
  replace o3 := o3.s8 k21
  replace hB := hB.trans k21
  refine bq [(49, _), (55, _)] rfl rfl ⟨rfl, rfl, trivial⟩ rfl (a8 (vs := [_, _]) rfl (s5 _ _ (fpB (((fp (leI (decLow xs))) * (fp (leI (decLow xs)))) - (fp 1))) (fpB (((d) * ((fp (leI (decLow xs))) * (fp (leI (decLow xs))))) + (fp 1))) _ o3.rd (bJ _) o4.rd (bJ _))) ?_
  rintro _ w22 ⟨v5, rfl, o5, k22⟩
  refine ⟨k22, ?_⟩
  have sb_b1_o5 := fun x hx => (show x ≠ b1 from by have h1 := (o5.blk x hx).1; have h2 := hb1.lt; omega)
  replace hb1 := hb1.s8 k22
  replace ow2 := ow2.s8 k22
  obtain ⟨hB, hb3⟩ := bN k22 hB hb3
  refine bL 56 rfl rfl rfl rfl rfl (am 45 rfl rfl rfl rfl (fun W' kk => bH (vs := [_, _, _]) rfl rfl) (am 45 rfl rfl rfl rfl (fun W' kk => bH (vs := [_, _, _]) rfl rfl) (am 45 rfl rfl rfl rfl (fun W' kk => bH (vs := [_, _, _]) rfl rfl) (am 57 rfl rfl rfl rfl (fun W' kk => fe rfl) (am 58 rfl rfl rfl rfl (fun W' kk => fe rfl) (bz (oga rfl rfl (a6 (a9 [(2, _), (4, _), (6, _), (0, _), (10, _)] ⟨rfl, rfl, rfl, rfl, rfl, trivial⟩ (a5 (a5 (aZ (ogm rfl rfl (a7 (mT rfl) rfl ?_))))))))))))))
  refine ogm rfl rfl (fa 62 false rfl (fun c1 hgc1 => dQ [(4, _)] (dD rfl rfl rfl hgc1) ⟨fE rfl, trivial⟩ (fun hw1 => bY rfl) rfl (dQ [(63, _)] (dD rfl rfl rfl hgc1) ⟨dJ rfl, trivial⟩ (fun hw2 => bY rfl) rfl (ow_grp2 64 true rfl (fun c2 hgc2 => dQ [(0, _)] (gW rfl rfl rfl hgc2) ⟨fE rfl, trivial⟩ (fun hw3 => bY rfl) rfl (nI [(65, _)] (gW rfl rfl rfl hgc2) ⟨dJ rfl, trivial⟩ (fun hw4 => a8 (vs := [_]) rfl (rS _ (fpB (rootF (fp (leI (fpB (((fp (leI (decLow xs))) * (fp (leI (decLow xs)))) - (fp 1))))) (fp (leI (fpB (((d) * ((fp (leI (decLow xs))) * (fp (leI (decLow xs))))) + (fp 1))))))) _ o5.rd (by rw [bJ]; decide))) rfl ?_))))))
  rintro w24 k24
  replace hb1 := hb1.s8 k24
  replace ow2 := ow2.s8 k24
  replace hb3 := hb3.s8 k24
  replace o5 := o5.s8 k24
  replace hB := hB.trans k24
  refine dQ [(66, _)] (gW rfl rfl rfl hgc2) ⟨dJ rfl, trivial⟩ (fun hw5 => fS rfl rfl) rfl (ow_pand (dD rfl rfl rfl hgc1) (dJ rfl) rfl hgc2 rfl (a7 (fk rfl rfl hgc1) rfl (a6 (a9 [(2, _), (4, _), (6, _), (0, _), (69, _)] ⟨rfl, rfl, rfl, rfl, rfl, trivial⟩ (dK rfl (fun hc2 => ?_) (fun hc2 => ?_))))))
  ·
   have hd1 := hc2
   try (simp only [Bool.and_eq_true, Bool.or_eq_true, decide_eq_true_eq, Bool.and_eq_false_iff, Bool.or_eq_false_iff, decide_eq_false_iff_not, Bool.not_eq_true', Bool.not_eq_false', Bool.not_eq_true, Bool.not_eq_false, ne_eq, Decidable.not_not] at hd1)
   refine a5 (aZ (a7 (dR (idx := []) (xs := []) (vs := []) (css := []) (out := [_, _, _, _, _, _, _, _, _, _, _, _, _, _, _, _, _, _, _, _]) ly bx rfl rfl trivial rfl rfl) rfl (ae (bB bx rfl rfl rfl (by simp only [List.forall_mem_cons]; refine ⟨rfl, rfl, rfl, rfl, rfl, rfl, rfl, rfl, rfl, rfl, rfl, rfl, rfl, rfl, rfl, rfl, rfl, rfl, rfl, rfl, fun v hv => by cases hv⟩) hb1 rfl) ?_)))
   rintro _ w25 ⟨hb9, k25, z10⟩
   replace ow2 := ow2.keep k25 (fun x hx hm => sb_b1_o1 x hx (List.mem_singleton.1 hm))
   replace hb3 := hb3.keep k25 (nm (Ne.symm ne_b1_b2))
   replace o5 := o5.keep k25 (fun x hx hm => sb_b1_o5 x hx (List.mem_singleton.1 hm))
   replace hB := hB.new k25 (nw ge_b1)
   clear z10
   replace hb9 : Bk w25 b1 _ [.int .u64 0, .int .u64 0, .int .u64 0, .int .u64 0, .int .u64 0, .int .u64 0, .int .u64 0, .int .u64 0, .int .u64 0, .int .u64 0, .int .u64 0, .int .u64 0, .int .u64 0, .int .u64 0, .int .u64 0, .int .u64 0, .int .u64 0, .int .u64 0, .int .u64 0, .int .u64 0] := hb9
   refine oga rfl rfl (a6 (cS hfin Tryz.results25 rfl (ak dd bx hb9 rfl) rfl ?_))
   have he := sB (z := 0) hx hc1 (sD h1 rfl rfl hc2)
   exact ⟨fun _ => 0, by rw [he]; rfl, fun h => by rw [he] at h; exact absurd h (by decide), fun _ => rfl, hB⟩
  ·
   have hd2 := hc2
   try (simp only [Bool.and_eq_true, Bool.or_eq_true, decide_eq_true_eq, Bool.and_eq_false_iff, Bool.or_eq_false_iff, decide_eq_false_iff_not, Bool.not_eq_true', Bool.not_eq_false', Bool.not_eq_true, Bool.not_eq_false, ne_eq, Decidable.not_not] at hd2)
   refine af (a5 (aZ (ogm rfl rfl (ad (a8 (vs := [_]) rfl (j0 _ (fpB (rootF (fp (leI (fpB (((fp (leI (decLow xs))) * (fp (leI (decLow xs)))) - (fp 1))))) (fp (leI (fpB (((d) * ((fp (leI (decLow xs))) * (fp (leI (decLow xs))))) + (fp 1))))))) _ o5.rd (bJ _))) rfl ?_))))
   rintro _ w26 ⟨hh8, rfl, E8, k26⟩
   replace hb1 := hb1.s8 k26
   replace ow2 := ow2.s8 k26
   obtain ⟨hB, hb3⟩ := bN k26 hB hb3
   refine ogm rfl rfl (a7 (bH (vs := [_, _]) rfl rfl) rfl (a7 (bH (vs := [_, _]) rfl rfl) rfl (ad (aj bD) rfl ?_)))
   rintro _ w27 ⟨b5, rfl, eb5, hb10, k27, z11⟩
   have ge_b5 : w.heap.size ≤ b5 := by have := hB.size; omega
   have ne_b1_b5 : b1 ≠ b5 := by have := hb1.lt; omega
   have sb_b5_ow2 := fun x hx => (show x ≠ b5 from by have := (ow2.blk x hx).2; omega)
   have ne_b2_b5 : b2 ≠ b5 := by have := hb3.lt; omega
   replace hb1 := hb1.s8 k27
   replace ow2 := ow2.s8 k27
   obtain ⟨hB, hb3⟩ := bN k27 hB hb3
   clear eb5 z11
   refine ae (bB bD rfl rfl rfl ai hb10 rfl) ?_
   rintro _ w28 ⟨hb11, k28, z12⟩
   replace hb1 := hb1.keep k28 (nm ne_b1_b5)
   replace ow2 := ow2.keep k28 (fun x hx hm => sb_b5_ow2 x hx (List.mem_singleton.1 hm))
   replace hb3 := hb3.keep k28 (nm ne_b2_b5)
   replace hB := hB.new k28 (nw ge_b5)
   clear z12
   replace hb11 := di (g := hh8) hb11
   refine oga rfl rfl (a6 (a5 (a5 (aZ (ogm rfl rfl (a6 (bT rfl (fun hc3 => ?_) (fun hc3 => ?_))))))))
   ·
    refine aZ (a7 (dR (idx := []) (xs := []) (vs := []) (css := []) (out := [_, _, _, _, _]) lz bD rfl rfl trivial rfl rfl) rfl (a7 (aa (cs' := [_, _, _, _, _]) cA bD rfl hb11 rfl rfl) rfl (ad (a8 (vs := [_, _]) rfl (eH _ _ _ _ fg E8 _)) rfl ?_)))
    rintro _ w29 ⟨hh9, rfl, E9, k29⟩
    replace hb1 := hb1.s8 k29
    replace ow2 := ow2.s8 k29
    obtain ⟨hB, hb3, hb11⟩ := ca k29 hB hb3 hb11
    refine ae (bB bD rfl rfl rfl ai hb11 rfl) ?_
    rintro _ w30 ⟨hb12, k30, z13⟩
    replace hb1 := hb1.keep k30 (nm ne_b1_b5)
    replace ow2 := ow2.keep k30 (fun x hx hm => sb_b5_ow2 x hx (List.mem_singleton.1 hm))
    replace hb3 := hb3.keep k30 (nm ne_b2_b5)
    replace hB := hB.new k30 (nw ge_b5)
    clear z13
    replace hb12 := di (g := hh9) hb12
    refine a6 (a9 [(2, _), (6, _), (12, _)] ⟨rfl, rfl, rfl, trivial⟩ (a5 (aZ (a7 (aa (cs' := [_, _, _, _, _]) cA bD rfl hb12 rfl rfl) rfl (a7 (aa (cs' := [_, _, _, _, _]) cA bD rfl hb3 rfl rfl) rfl (ad (a8 (vs := [_, _]) rfl (gj _ _ _ _ E9 E1 _)) rfl ?_))))))
    rintro _ w31 ⟨hh10, rfl, E10, k31⟩
    replace hb1 := hb1.s8 k31
    replace ow2 := ow2.s8 k31
    obtain ⟨hB, hb3⟩ := bN k31 hB hb3
    refine ae (bB bx rfl rfl rfl ai hb1 rfl) ?_
    rintro _ w32 ⟨hb13, k32, z14⟩
    replace ow2 := ow2.keep k32 (fun x hx hm => sb_b1_o1 x hx (List.mem_singleton.1 hm))
    replace hb3 := hb3.keep k32 (nm (Ne.symm ne_b1_b2))
    replace hB := hB.new k32 (nw ge_b1)
    clear z14
    replace hb13 := gV (g := hh10) hb13
    refine oga rfl rfl (a6 (cS hfin Tryz.results25 rfl (ak dd bx hb13 rfl) rfl ?_))
    have he := lI (z := 0) hx hc1 (sD h1 rfl rfl hc2)
    exact ⟨hh10, by rw [he]; rfl, fun _ => (by rw [dec_xT h1 rfl rfl hc3]; exact E10), fun h => absurd he h, hB⟩
   ·
    refine af (a5 (aZ (a7 (aa (cs' := [_, _, _, _, _]) cA bD rfl hb11 rfl rfl) rfl (a7 (aa (cs' := [_, _, _, _, _]) cA bD rfl hb3 rfl rfl) rfl (ad (a8 (vs := [_, _]) rfl (gj _ _ _ _ E8 E1 _)) rfl ?_)))))
    rintro _ w33 ⟨hh11, rfl, E11, k33⟩
    replace hb1 := hb1.s8 k33
    replace ow2 := ow2.s8 k33
    replace hB := hB.trans k33
    refine ae (bB bx rfl rfl rfl ai hb1 rfl) ?_
    rintro _ w34 ⟨hb14, k34, z15⟩
    replace ow2 := ow2.keep k34 (fun x hx hm => sb_b1_o1 x hx (List.mem_singleton.1 hm))
    replace hB := hB.new k34 (nw ge_b1)
    clear z15
    replace hb14 := gV (g := hh11) hb14
    refine oga rfl rfl (a6 (a9 [(2, _), (3, _)] ⟨rfl, rfl, trivial⟩ (cS hfin Tryz.results25 rfl (ak dd bx hb14 rfl) rfl ?_)))
    have he := lI (z := 0) hx hc1 (sD h1 rfl rfl hc2)
    exact ⟨hh11, by rw [he]; rfl, fun _ => (by rw [dec_xF h1 rfl rfl hc3]; exact E11), fun h => absurd he h, hB⟩
end Go.Proofs.YtllmbkmghmmhfaaGreatDoor.W
namespace Go.Proofs.YtllmbkmghmmhfaaGreatDoor.W
open Go Go.Eng Go.Byt
open Go.Fld Go.Ed
def baseB : List UInt8 := [88, 102, 102, 102, 102, 102, 102, 102, 102, 102, 102, 102, 102, 102, 102, 102, 102, 102, 102, 102, 102, 102, 102, 102, 102, 102, 102, 102, 102, 102, 102, 102]
def basePt : Pt := (⟨15112221349535400772501151409588531511454012693041857206046113283949847762202, by decide⟩, ⟨46316835694926478169428394003475163141307993866256225615783033603165251855960, by decide⟩)
theorem du : OnP basePt := by unfold OnP On; decide +kernel
theorem ma : decLow baseB = baseB := by decide +kernel
theorem lP : decY baseB = basePt.2 := by unfold decY; rw [ma]; decide +kernel
theorem qJ : (bv (repN 102 32)).set 0 (.int .u8 88) = bv baseB := by
 rw [iG (by decide)]; congr 1
def bU : Fp := (⟨37053468555941182535542715202780130513046395093004980492626426882532201484767, by decide⟩ : Fp)
def bV : Fp := (⟨35320460721920060721965471946471712506633951349663716574434581141966314745466, by decide⟩ : Fp)
def bI : Fp := (⟨36615873626505047815401509688526422966742341385236691817538452001808239043262, by decide⟩ : Fp)
def bQ : Fp := (⟨26187595835145689230469591415084376402084551887632582719101735842039498021991, by decide⟩ : Fp)
def bR : Fp := (⟨42783823269122696939284341094755422415180979639778424813682678720006717057747, by decide⟩ : Fp)
def bS : Fp := (⟨42783823269122696939284341094755422415180979639778424813682678720006717057747, by decide⟩ : Fp)
theorem sV : decU basePt.2 = bU := by decide +kernel
theorem sU : decV basePt.2 = bV := by decide +kernel
theorem sW : bU * inv bV = bQ := by rw [fb (show bV * bI = 1 by decide +kernel)]; decide +kernel
theorem base_r0 : ep bQ = bR := Fin.ext (by unfold ep; rw [lE _ _ (by decide)]; decide +kernel)
theorem o0 : cw bQ = bS := by
 unfold cw
 rw [base_r0]
 rw [if_pos (by decide +kernel)]; decide +kernel
theorem oc : rootOk bU bV = true := by unfold rootOk; rw [sW, o0]; decide +kernel
theorem base_F : rootF bU bV = basePt.1 := by unfold rootF; rw [oc, sW, o0]; decide +kernel
theorem lQ : decE baseB = 0 := by
 have hl : ¬ baseB.length ≠ 32 := by decide
 have ho : decOdd baseB = false := by decide +kernel
 unfold decE
 rw [if_neg hl, lP, ma, if_neg (by decide +kernel), sV, sU, oc, ho]; rfl
theorem sT : decX baseB = basePt.1 := by
 have ho : decOdd baseB = false := by decide +kernel
 unfold decX
 rw [ho, lP, sV, sU, base_F]; rfl
theorem lR (v : Value) (w : World) (hv : RdB w v baseB) : Rets Tryz.prog 25 [v] w (fun v w' => ∃ p, v = .tuple #[.agg (iv .u64 20 p).toArray, .int .i64 0] ∧ PtR p basePt ∧ Keep [] w w') :=
  (ji v baseB w hv (by decide)).mono fun r w' ⟨p, e, h, _, k⟩ => ⟨p, by rw [e, lQ], by have := h lQ; rw [sT, lP] at this; exact jK this, k⟩
theorem qN (w : World) : Rets Tryz.prog 43 [] w (fun v w' => ∃ p, v = .agg (iv .u64 20 p).toArray ∧ PtR p basePt ∧ Keep [] w w') := by
 have hB : Keep [] w w := Keep.refl _ _
 refine ac Tryz.func43 rfl (by decide) Tryz.ntmps43 rfl (fun fin _ hfin => a5 (aZ (ad (aj bx) rfl ?_)))
 rintro _ w1 ⟨b1, rfl, eb1, hb1, k1, z1⟩
 have ge_b1 : w.heap.size ≤ b1 := by have := hB.size; omega
 replace hB := hB.trans k1
 clear eb1 z1
 refine a6 (a5 (aZ (ad (dv (m := 1) (xs := [.const (.int .u8 (102))]) (vs := [_]) aA cg (by decide) rfl rfl rfl (by first | (simp; done) | (intro v hv; rw [List.mem_singleton] at hv; subst hv; rfl)) (by decide)) rfl ?_)))
 rintro v1 w2 ⟨o1, nn1, lb1, k2, z2⟩
 obtain ⟨hB, hb1⟩ := bN k2 hB hb1
 replace o1 : Own w2 _ _ 1 v1 1 (bv [102]) := o1
 refine ad (a8 (vs := [_, _]) rfl (mz _ 102 _ (o1).rd)) rfl ?_
 rintro v2 w3 ⟨o2, k3⟩
 have gl_o2 := hB.size
 have sb_b1_o2 := fun x hx => (show x ≠ b1 from by have h1 := (o2.blk x hx).1; have h2 := hb1.lt; omega)
 obtain ⟨hB, hb1⟩ := bN k3 hB hb1
 refine oga rfl rfl (a6 (a5 (aZ (ogm rfl rfl (a7 (bk aA cg rfl o2.rd rfl (by omega)) rfl (ae (eY (u := .int .u8 88) cg rfl rfl rfl o2 (by decide)) ?_))))))
 rintro _ w99 ⟨ow2, k99, z99⟩
 replace hB := hB.new k99 (fun x hx => .inl (Nat.le_trans gl_o2 (o2.blk x hx).1))
 replace ow2 : OwnB w99 w.heap.size v2 baseB := by have e := ow2.lo gl_o2; rw [show (0 : Int).toNat * 1 = 0 from rfl, qJ] at e; exact e
 replace hb1 := hb1.keep k99 (fun hm => sb_b1_o2 _ hm rfl)
 refine a6 (a5 (aZ (ogm rfl rfl (ad (a8 (vs := [_]) rfl (lR _ _ ow2.rd)) rfl ?_))))
 rintro _ w4 ⟨hh1, rfl, E1, k4⟩
 replace hb1 := hb1.s8 k4
 replace ow2 := ow2.s8 k4
 replace hB := hB.trans k4
 refine ogm rfl rfl (a7 (bH (vs := [_, _]) rfl rfl) rfl (a7 (bH (vs := [_, _]) rfl rfl) rfl (ad (aj bx) rfl ?_)))
 rintro _ w5 ⟨b2, rfl, eb2, hb2, k5, z3⟩
 have ge_b2 : w.heap.size ≤ b2 := by have := hB.size; omega
 have ne_b1_b2 : b1 ≠ b2 := by have := hb1.lt; omega
 have sb_b2_ow2 := fun x hx => (show x ≠ b2 from by have := (ow2.blk x hx).2; omega)
 replace hb1 := hb1.s8 k5
 replace ow2 := ow2.s8 k5
 replace hB := hB.trans k5
 clear eb2 z3
 refine ae (bB bx rfl rfl rfl ai hb2 rfl) ?_
 rintro _ w6 ⟨hb3, k6, z4⟩
 replace hb1 := hb1.keep k6 (nm ne_b1_b2)
 replace ow2 := ow2.keep k6 (fun x hx hm => sb_b2_ow2 x hx (List.mem_singleton.1 hm))
 replace hB := hB.new k6 (nw ge_b2)
 clear z4
 replace hb3 := gV (g := hh1) hb3
 refine oga rfl rfl (a6 (a9 [(0, _), (2, _)] ⟨rfl, rfl, trivial⟩ (a5 (aZ (a7 (aa (cs' := [_, _, _, _, _, _, _, _, _, _, _, _, _, _, _, _, _, _, _, _]) dd bx rfl hb3 rfl rfl) rfl (ae (bB bx rfl rfl rfl (by simp only [List.forall_mem_cons]; refine ⟨rfl, rfl, rfl, rfl, rfl, rfl, rfl, rfl, rfl, rfl, rfl, rfl, rfl, rfl, rfl, rfl, rfl, rfl, rfl, rfl, fun v hv => by cases hv⟩) hb1 rfl) ?_))))))
 rintro _ w7 ⟨hb4, k7, z5⟩
 replace ow2 := ow2.keep k7 (fun x hx hm => sb_b1_o2 x hx (List.mem_singleton.1 hm))
 replace hB := hB.new k7 (nw ge_b1)
 clear z5
 replace hb4 := gV (g := hh1) hb4
 refine a6 (ba hfin Tryz.results43 rfl (ak dd bx hb4 rfl)  ?_)
 exact ⟨hh1, rfl, E1, hB⟩
attribute [local irreducible] encB
theorem fullR {p : Nat → Int} {a : Pt} (hp : PtR p a) (w : World) : Rets Tryz.prog 44 [.agg (iv .u64 20 p).toArray] w (fun v w' => ∃ r, v = .agg (iv .u64 20 r).toArray ∧ PtR r a ∧ Keep [] w w') := by
  obtain ⟨Z, hz, h⟩ := hp
  exact (iB p _ _ _ _ h hz w).mono fun v w' ⟨r, e, h', k⟩ => ⟨r, e, ⟨Z, hz, h'⟩, k⟩
theorem plusR {p q f : Nat → Int} {a b : Pt} (hp : PtR p a) (hq : PtR q b) (oa : OnP a) (ob : OnP b) (hf : El f d) (w : World) : Rets Tryz.prog 68 [.agg (iv .u64 20 p).toArray, .agg (iv .u64 20 q).toArray, .agg (iv .u64 5 f).toArray] w (fun v w' => ∃ r, v = .agg (iv .u64 20 r).toArray ∧ PtR r (padd a b) ∧ Keep [] w w') := by
  obtain ⟨Z1, h1, hp⟩ := hp
  obtain ⟨Z2, h2, hq⟩ := hq
  exact (kA p q f _ _ _ _ _ _ _ _ _ hp hq hf w).mono fun v w' ⟨r, e, h', k⟩ => ⟨r, e, lw oa ob h1 h2 h', k⟩
theorem doubleR {p : Nat → Int} {a : Pt} (hp : PtR p a) (oa : OnP a) (w : World) : Rets Tryz.prog 69 [.agg (iv .u64 20 p).toArray] w (fun v w' => ∃ r, v = .agg (iv .u64 20 r).toArray ∧ PtR r (padd a a) ∧ Keep [] w w') := by
  obtain ⟨Z, hz, hp⟩ := hp
  exact (mB p _ _ _ _ hp w).mono fun v w' ⟨r, e, h', k⟩ => ⟨r, e, nD oa hz h', k⟩
theorem PplusR {p q : Nat → Int} {a b : Pt} (hp : PtR p a) (hq : PtR q b) (oa : OnP a) (ob : OnP b) (w : World) : Rets Tryz.prog 29 [.agg (iv .u64 20 p).toArray, .agg (iv .u64 20 q).toArray] w (fun v w' => ∃ r, v = .agg (iv .u64 20 r).toArray ∧ PtR r (padd a b) ∧ Keep [] w w') := by
  obtain ⟨Z1, h1, hp⟩ := hp
  obtain ⟨Z2, h2, hq⟩ := hq
  exact (qM p q _ _ _ _ _ _ _ _ hp h1 hq h2 w).mono fun v w' ⟨r, e, h', k⟩ => ⟨r, e, lw oa ob h1 h2 h', k⟩
theorem PzeroR (w : World) : Rets Tryz.prog 67 [] w (fun v w' => ∃ r, v = .agg (iv .u64 20 r).toArray ∧ PtR r zero ∧ Keep [] w w') :=
  (qK w).mono fun v w' ⟨r, e, h', k⟩ => ⟨r, e, qx h', k⟩
theorem eP {x Z : Fp} (hz : Z ≠ 0) : x * Z * inv Z = x := by
 have := ce hz
 generalize inv Z = i at *
 grind -lia -linarith
theorem PencodeR {p : Nat → Int} {a : Pt} (hp : PtR p a) (w : World) : Rets Tryz.prog 21 [.agg (iv .u64 20 p).toArray] w (fun v w' => OwnB w' w.heap.size v (encB a.1 a.2) ∧ Keep [] w w') := by
  obtain ⟨Z, hz, hp⟩ := hp
  have h := gJ p _ _ _ _ hp hz w
  rw [eP hz, eP hz] at h
  exact h
theorem PsameR {p q : Nat → Int} {a b : Pt} (hp : PtR p a) (hq : PtR q b) (w : World) : Rets Tryz.prog 28 [.agg (iv .u64 20 p).toArray, .agg (iv .u64 20 q).toArray] w (fun v w' => v = .bool (decide (encB a.1 a.2 = encB b.1 b.2)) ∧ Keep [] w w') := by
  obtain ⟨Z1, h1, hp⟩ := hp
  obtain ⟨Z2, h2, hq⟩ := hq
  have h := qL p q _ _ _ _ _ _ _ _ hp h1 hq h2 w
  rw [eP h1, eP h1, eP h2, eP h2] at h
  exact h
end Go.Proofs.YtllmbkmghmmhfaaGreatDoor.W
namespace Go.Proofs.YtllmbkmghmmhfaaGreatDoor.W
open Go Go.Eng Go.Byt
open Go.Fld Go.Ed
theorem kR (p : Nat → Int) (a : Pt) (v : Value) (xs : List UInt8) (hp : PtR p a) (ha : OnP a) (w : World) (hv : RdB w v xs) (hx : xs.length = 32) : Rets Tryz.prog 27 [.agg (iv .u64 20 p).toArray, v] w (fun r w' => ∃ q, r = .tuple #[.agg (iv .u64 20 q).toArray, .int .i64 0] ∧ PtR q (pmul (leI xs).toNat a) ∧ Keep [] w w') := by
 have hB : Keep [] w w := Keep.refl _ _
 refine ac Tryz.func27 rfl (by decide) Tryz.ntmps27 rfl (fun fin _ hfin => a5 (aZ (ad (bc (cs := [.int .u64 (p 0), .int .u64 (p 1), .int .u64 (p 2), .int .u64 (p 3), .int .u64 (p 4), .int .u64 (p 5), .int .u64 (p 6), .int .u64 (p 7), .int .u64 (p 8), .int .u64 (p 9), .int .u64 (p 10), .int .u64 (p 11), .int .u64 (p 12), .int .u64 (p 13), .int .u64 (p 14), .int .u64 (p 15), .int .u64 (p 16), .int .u64 (p 17), .int .u64 (p 18), .int .u64 (p 19)]) rfl rfl) rfl ?_)))
 rintro _ w1 ⟨b1, rfl, eb1, hb1, k1, z1⟩
 replace hB := hB.trans k1
 clear eb1 z1
 refine ad (aj bx) rfl ?_
 rintro _ w2 ⟨b2, rfl, eb2, hb2, k2, z2⟩
 have ge_b2 : w.heap.size ≤ b2 := by have := hB.size; omega
 obtain ⟨hB, hb1⟩ := bN k2 hB hb1
 clear eb2 z2
 refine oga rfl rfl (a6 (lX 64 (a5 (a5 (aZ (ogm rfl rfl (a7 (cB aA rfl (by first | assumption | exact Own.rd ‹_› | exact Rd.s8 ‹_› hB | exact Own.rd (Own.s8 ‹_› hB))) rfl (a7 (dt rfl rfl) rfl (a6 (ci rfl (by omega) (af (a5 (aZ (ad (a8 (vs := []) rfl (nE _)) rfl ?_))))))))))))))
 rintro _ w3 ⟨hh1, rfl, E1, k3⟩
 obtain ⟨hB, hb1, hb2⟩ := ca k3 hB hb1 hb2
 refine ad (aj bD) rfl ?_
 rintro _ w4 ⟨b3, rfl, eb3, hb3, k4, z3⟩
 have ge_b3 : w.heap.size ≤ b3 := by have := hB.size; omega
 have ne_b1_b3 : b1 ≠ b3 := by have := hb1.lt; omega
 have ne_b2_b3 : b2 ≠ b3 := by have := hb2.lt; omega
 obtain ⟨hB, hb1, hb2⟩ := ca k4 hB hb1 hb2
 clear eb3 z3
 refine ae (bB bD rfl rfl rfl ai hb3 rfl) ?_
 rintro _ w5 ⟨hb4, k5, z4⟩
 replace hb1 := hb1.keep k5 (nm ne_b1_b3)
 replace hb2 := hb2.keep k5 (nm ne_b2_b3)
 replace hB := hB.new k5 (nw ge_b3)
 clear z4
 replace hb4 := di (g := hh1) hb4
 refine a6 (a5 (aZ (ad (aj ty99) rfl ?_)))
 rintro _ w6 ⟨b4, rfl, eb4, hb5, k6, z5⟩
 have ge_b4 : w.heap.size ≤ b4 := by have := hB.size; omega
 have ne_b1_b4 : b1 ≠ b4 := by have := hb1.lt; omega
 have ne_b2_b4 : b2 ≠ b4 := by have := hb2.lt; omega
 have ne_b3_b4 : b3 ≠ b4 := by have := hb4.lt; omega
 obtain ⟨hB, hb1, hb2, hb4⟩ := dG k6 hB hb1 hb2 hb4
 clear eb4 z5
 replace hb5 : Bk w6 b4 99 (iv .u64 320 (fun _ => 0)) := by rw [iv, bE]; exact hb5
 refine a6 (a5 (aZ (ad (a8 (vs := []) rfl (PzeroR _)) rfl ?_)))
 rintro _ w7 ⟨hh2, rfl, E2, k7⟩
 obtain ⟨hB, hb1, hb2, hb4, hb5⟩ := dw k7 hB hb1 hb2 hb4 hb5
 refine a7 (aq Tryz.underlying99 bx rfl rfl (by decide)) rfl (ae (sF (g := hh2) bx rfl rfl hb5 (by first | omega | (unfold In at *; omega))) ?_)
 rintro _ w8 ⟨hb6, k8, z6⟩
 replace hb1 := hb1.keep k8 (nm ne_b1_b4)
 replace hb2 := hb2.keep k8 (nm ne_b2_b4)
 replace hb4 := hb4.keep k8 (nm ne_b3_b4)
 replace hB := hB.new k8 (nw ge_b4)
 clear z6
 replace hb6 : Bk w8 b4 _ (iv .u64 320 (updR (fun _ => 0) (0 + 0) 20 hh2)) := hb6
 refine a6 (a5 (a5 (aZ (oga rfl rfl (a6 (ab (bK (Γ := Int × (Nat → Int)) (fun ⟨i, U⟩ => [(1, v), (2, .pointer (some ⟨b1, 0, none⟩)), (4, .pointer (some ⟨b2, 0, none⟩)), (6, .pointer (some ⟨b3, 0, none⟩)), (7, .pointer (some ⟨b4, 0, none⟩)), (8, .int .i64 i)]) (fun ⟨i, U⟩ W => 1 ≤ i ∧ i ≤ 16 ∧ (∀ j, j < i.toNat → PtR (atN U (0 + j * 20)) (pmul j a)) ∧ Bk W b1 53 [.int .u64 (p 0), .int .u64 (p 1), .int .u64 (p 2), .int .u64 (p 3), .int .u64 (p 4), .int .u64 (p 5), .int .u64 (p 6), .int .u64 (p 7), .int .u64 (p 8), .int .u64 (p 9), .int .u64 (p 10), .int .u64 (p 11), .int .u64 (p 12), .int .u64 (p 13), .int .u64 (p 14), .int .u64 (p 15), .int .u64 (p 16), .int .u64 (p 17), .int .u64 (p 18), .int .u64 (p 19)] ∧ Bk W b2 53 [.int .u64 0, .int .u64 0, .int .u64 0, .int .u64 0, .int .u64 0, .int .u64 0, .int .u64 0, .int .u64 0, .int .u64 0, .int .u64 0, .int .u64 0, .int .u64 0, .int .u64 0, .int .u64 0, .int .u64 0, .int .u64 0, .int .u64 0, .int .u64 0, .int .u64 0, .int .u64 0] ∧ Bk W b3 51 [.int .u64 (hh1 0), .int .u64 (hh1 1), .int .u64 (hh1 2), .int .u64 (hh1 3), .int .u64 (hh1 4)] ∧ Bk W b4 99 (iv .u64 320 U) ∧ Keep [] w W) (fun ⟨i, U⟩ => (16 - i).toNat) ⟨1, (updR (fun _ => 0) (0 + 0) 20 hh2)⟩ ⟨rfl, rfl, rfl, rfl, rfl, rfl, trivial⟩ (⟨by decide, by decide, oi E2, hb1, hb2, hb4, hb6, hB⟩) ?_)))))))
 rintro ⟨i, U⟩ w9 ⟨hi0, hi1, hwin, hbx2, hbx4, hbx6, hbx7, hB⟩
 refine a9 [(1, v), (2, .pointer (some ⟨b1, 0, none⟩)), (4, .pointer (some ⟨b2, 0, none⟩)), (6, .pointer (some ⟨b3, 0, none⟩)), (7, .pointer (some ⟨b4, 0, none⟩)), (8, .int .i64 i)] ⟨rfl, rfl, rfl, rfl, rfl, rfl, trivial⟩ (a5 (a5 (aZ (ogm rfl rfl (a7 (bd rfl rfl) rfl (a6 (bT rfl (fun hc1 => ?_) (fun hc1 => ?_))))))))
 ·
  refine af (a5 (ab (bf 9 [0, 1, 2, 3, 4, 5, 7, 6, 8] [6, 8] [] mixed [(8, _), (7, _), (2, _), (6, _), (1, _), (4, _), (18, _), (19, _)] ⟨rfl, rfl, rfl, rfl, rfl, rfl, rfl, rfl, trivial⟩ (by decide +kernel) rfl (fun w10 k9 => ?_))))
  obtain ⟨hB, hbx2, hbx4, hbx6, hbx7⟩ := dw k9 hB hbx2 hbx4 hbx6 hbx7
  refine bL 8 rfl rfl rfl rfl rfl (bL 8 rfl rfl rfl rfl rfl (am 23 rfl rfl rfl rfl (fun W' kk => cj rfl rfl (by omega)) (cF 7 24 rfl rfl rfl rfl rfl (fun W' kk => aq Tryz.underlying99 bx rfl rfl (by constructor <;> omega)) (am 25 rfl rfl rfl rfl (fun W' kk => dl dd bx rfl (Bk.s8 hbx7 kk) (by first | omega | (unfold In at *; omega))) (am 2 rfl rfl rfl rfl (fun W' kk => aa (cs' := [_, _, _, _, _, _, _, _, _, _, _, _, _, _, _, _, _, _, _, _]) dd bx rfl (Bk.s8 hbx2 kk) rfl rfl) (am 6 rfl rfl rfl rfl (fun W' kk => aa (cs' := [_, _, _, _, _]) cA bD rfl (Bk.s8 hbx6 kk) rfl rfl) (bq [(27, _)] rfl rfl ⟨rfl, trivial⟩ rfl (a8 (vs := [_]) rfl (fullR hp _)) ?_)))))))
  rintro _ w11 ⟨hh3, rfl, E3, k10⟩
  refine ⟨k10, ?_⟩
  obtain ⟨hB, hbx2, hbx4, hbx6, hbx7⟩ := dw k10 hB hbx2 hbx4 hbx6 hbx7
  refine bq [(26, _), (28, _), (29, _)] rfl rfl ⟨rfl, rfl, rfl, trivial⟩ rfl (a8 (vs := [_, _, _]) rfl (plusR (hwin ((i - 1)).toNat (by omega)) E3 (dY ha _) ha E1 _)) ?_
  rintro _ w12 ⟨hh4, rfl, E4, k11⟩
  refine ⟨k11, ?_⟩
  obtain ⟨hB, hbx2, hbx4, hbx6, hbx7⟩ := dw k11 hB hbx2 hbx4 hbx6 hbx7
  refine bz (a7 (aq Tryz.underlying99 bx rfl rfl (by constructor <;> omega)) rfl (ae (sF (g := hh4) bx rfl rfl hbx7 (by first | omega | (unfold In at *; omega))) ?_))
  rintro _ w13 ⟨hb7, k12, z7⟩
  replace hbx2 := hbx2.keep k12 (nm ne_b1_b4)
  replace hbx4 := hbx4.keep k12 (nm ne_b2_b4)
  replace hbx6 := hbx6.keep k12 (nm ne_b3_b4)
  replace hB := hB.new k12 (nw ge_b4)
  clear z7
  replace hb7 : Bk w13 b4 _ (iv .u64 320 (updR U (0 + (i).toNat * 20) 20 hh4)) := hb7
  refine a6 (bZ (aZ (ogm rfl rfl (a7 (bi rfl rfl (by omega)) rfl (oga rfl rfl (a6 (bM (Γ := Int × (Nat → Int)) ⟨i + 1, _⟩ ⟨rfl, rfl, rfl, rfl, rfl, rfl, trivial⟩ (by (try dsimp only); omega) (⟨by omega, by omega, qO hi0 hwin E4, hbx2, hbx4, hbx6, hb7, hB⟩))))))))
 ·
  refine bF rfl (a5 (aZ (ad (a8 (vs := []) rfl (PzeroR _)) rfl ?_)))
  rintro _ w14 ⟨hh5, rfl, E5, k13⟩
  obtain ⟨hB, hbx4, hbx6, hbx7⟩ := dG k13 hB hbx4 hbx6 hbx7
  refine ad (aj bx) rfl ?_
  rintro _ w15 ⟨b5, rfl, eb5, hb8, k14, z8⟩
  have ge_b5 : w.heap.size ≤ b5 := by have := hB.size; omega
  have ne_b2_b5 : b2 ≠ b5 := by have := hbx4.lt; omega
  have ne_b3_b5 : b3 ≠ b5 := by have := hbx6.lt; omega
  have ne_b4_b5 : b4 ≠ b5 := by have := hbx7.lt; omega
  obtain ⟨hB, hbx4, hbx6, hbx7⟩ := dG k14 hB hbx4 hbx6 hbx7
  clear eb5 z8
  refine ae (bB bx rfl rfl rfl ai hb8 rfl) ?_
  rintro _ w16 ⟨hb9, k15, z9⟩
  replace hbx4 := hbx4.keep k15 (nm ne_b2_b5)
  replace hbx6 := hbx6.keep k15 (nm ne_b3_b5)
  replace hbx7 := hbx7.keep k15 (nm ne_b4_b5)
  replace hB := hB.new k15 (nw ge_b5)
  clear z9
  replace hb9 := gV (g := hh5) hb9
  refine a6 (a5 (aZ (oga rfl rfl (a6 (a5 (lY (qX (Γ := Int × (Nat → Int)) (fun ⟨j, o⟩ => [(1, v), (4, .pointer (some ⟨b2, 0, none⟩)), (6, .pointer (some ⟨b3, 0, none⟩)), (7, .pointer (some ⟨b4, 0, none⟩)), (9, .pointer (some ⟨b5, 0, none⟩)), (10, .int .i64 j)]) (fun ⟨j, o⟩ W => 0 ≤ j ∧ j ≤ 63 ∧ PtR o (pmul (topN xs (j + 1) * 16) a) ∧ Bk W b2 53 [.int .u64 0, .int .u64 0, .int .u64 0, .int .u64 0, .int .u64 0, .int .u64 0, .int .u64 0, .int .u64 0, .int .u64 0, .int .u64 0, .int .u64 0, .int .u64 0, .int .u64 0, .int .u64 0, .int .u64 0, .int .u64 0, .int .u64 0, .int .u64 0, .int .u64 0, .int .u64 0] ∧ Bk W b3 51 [.int .u64 (hh1 0), .int .u64 (hh1 1), .int .u64 (hh1 2), .int .u64 (hh1 3), .int .u64 (hh1 4)] ∧ Bk W b4 99 (iv .u64 320 U) ∧ Bk W b5 53 [.int .u64 (o 0), .int .u64 (o 1), .int .u64 (o 2), .int .u64 (o 3), .int .u64 (o 4), .int .u64 (o 5), .int .u64 (o 6), .int .u64 (o 7), .int .u64 (o 8), .int .u64 (o 9), .int .u64 (o 10), .int .u64 (o 11), .int .u64 (o 12), .int .u64 (o 13), .int .u64 (o 14), .int .u64 (o 15), .int .u64 (o 16), .int .u64 (o 17), .int .u64 (o 18), .int .u64 (o 19)] ∧ Keep [] w W) (fun ⟨j, o⟩ => (j + 1).toNat) ⟨63, hh5⟩ ⟨rfl, rfl, rfl, rfl, rfl, rfl, trivial⟩ (⟨by decide, by decide, (by show PtR _ (pmul (topN xs 64 * 16) a); rw [qY hx]; exact E5), hbx4, hbx6, hbx7, hb9, hB⟩) (by show (63 + 1 : Int).toNat ≤ 64; decide) (fun γ W h => by have := h.1; show 0 < (γ.1 + 1).toNat; omega) ?_)))))))
  rintro mm ⟨j, o⟩ w17 ⟨hj0, hj1, hO, hbx4, hbx6, hbx7, hbx9, hB⟩ hmu again
  refine a9 [(1, v), (4, .pointer (some ⟨b2, 0, none⟩)), (6, .pointer (some ⟨b3, 0, none⟩)), (7, .pointer (some ⟨b4, 0, none⟩)), (9, .pointer (some ⟨b5, 0, none⟩)), (10, .int .i64 j)] ⟨rfl, rfl, rfl, rfl, rfl, rfl, trivial⟩ (a5 (bf 15 [0, 1, 2, 3, 4, 5, 6, 7, 8, 9, 10, 11, 12, 13, 14] [14] [] mixed [(9, _), (1, _), (10, _), (7, _), (6, _), (4, _)] ⟨rfl, rfl, rfl, rfl, rfl, rfl, trivial⟩ (by decide +kernel) rfl (fun w18 k16 => ?_)))
  obtain ⟨hB, hbx4, hbx6, hbx7, hbx9⟩ := dw k16 hB hbx4 hbx6 hbx7 hbx9
  refine am 9 rfl rfl rfl rfl (fun W' kk => aa (cs' := [_, _, _, _, _, _, _, _, _, _, _, _, _, _, _, _, _, _, _, _]) dd bx rfl (Bk.s8 hbx9 kk) rfl rfl) (bL 1 rfl rfl rfl rfl rfl (bL 10 rfl rfl rfl rfl rfl (am 35 rfl rfl rfl rfl (fun W' kk => es rfl rfl (by omega)) (cF 34 36 rfl rfl rfl rfl rfl (fun W' kk => bk aA cg rfl (by first | exact Rd.s8 ‹_› kk | exact Rd.s8 (Own.rd ‹_›) kk | exact Rd.s8 (Rd.s8 ‹_› hB) kk | exact Rd.s8 (Own.rd (Own.s8 ‹_› hB)) kk) rfl (by omega)) (am 37 rfl rfl rfl rfl (fun W' kk => dT iI rfl (by first | exact Rd.s8 ‹_› kk | exact Rd.s8 (Own.rd ‹_›) kk | exact Rd.s8 (Rd.s8 ‹_› hB) kk | exact Rd.s8 (Own.rd (Own.s8 ‹_› hB)) kk) (by omega)) (bL 10 rfl rfl rfl rfl rfl (am 39 rfl rfl rfl rfl (fun W' kk => fQ rfl rfl (by omega)) (am 40 rfl rfl rfl rfl (fun W' kk => fR rfl rfl (by omega)) ?_))))))))
  refine cF 38 41 rfl rfl rfl rfl rfl (fun W' kk => fC rfl rfl (by constructor <;> (try simp only [IntKind.bits]) <;> omega)) (pw_gx (e' := nib xs j) (lo := 0) (hi := 15) [(42, _)] rfl rfl ⟨rfl, trivial⟩ rfl (fun W' kk => co rfl rfl) (nib_eq hx hj0 hj1) (nib_in xs j) (fun z10 h1 r1 => cF 7 43 rfl rfl rfl rfl rfl (fun W' kk => aq Tryz.underlying99 bx rfl rfl (by have := r1; unfold In at this; omega)) (am 44 rfl rfl rfl rfl (fun W' kk => dl dd bx rfl (Bk.s8 hbx7 kk) (by have := r1; unfold In at this; omega)) (am 6 rfl rfl rfl rfl (fun W' kk => aa (cs' := [_, _, _, _, _]) cA bD rfl (Bk.s8 hbx6 kk) rfl rfl) (bq [(33, _), (45, _), (46, _)] rfl rfl ⟨rfl, rfl, rfl, trivial⟩ rfl (a8 (vs := [_, _, _]) rfl (plusR hO (hwin (z10).toNat (by have := r1; unfold In at this; omega)) (dY ha _) (dY ha _) E1 _)) ?_)))))
  rintro _ w19 ⟨hh6, rfl, E6, k17⟩
  refine ⟨k17, ?_⟩
  obtain ⟨hB, hbx4, hbx6, hbx7, hbx9⟩ := dw k17 hB hbx4 hbx6 hbx7 hbx9
  replace E6 : PtR hh6 (pmul (topN xs j) a) := by rw [← rD ha hj0, ← h1]; exact E6
  refine bz (ae (bB bx rfl rfl rfl ai hbx9 rfl) ?_)
  rintro _ w20 ⟨hb10, k18, z11⟩
  replace hbx4 := hbx4.keep k18 (nm ne_b2_b5)
  replace hbx6 := hbx6.keep k18 (nm ne_b3_b5)
  replace hbx7 := hbx7.keep k18 (nm ne_b4_b5)
  replace hB := hB.new k18 (nw ge_b5)
  clear z11
  replace hb10 := gV (g := hh6) hb10
  refine a6 (a5 (a5 (aZ (ogm rfl rfl (a7 (fS rfl rfl) rfl (a6 (bT rfl (fun hc2 => ?_) (fun hc2 => ?_))))))))
  ·
   refine nj rfl (a5 (af (a5 (aZ (a7 (aa (cs' := [_, _, _, _, _, _, _, _, _, _, _, _, _, _, _, _, _, _, _, _]) dd bx rfl hb10 rfl rfl) rfl (ae (bB bx rfl rfl rfl (by simp only [List.forall_mem_cons]; refine ⟨rfl, rfl, rfl, rfl, rfl, rfl, rfl, rfl, rfl, rfl, rfl, rfl, rfl, rfl, rfl, rfl, rfl, rfl, rfl, rfl, fun v hv => by cases hv⟩) hbx4 rfl) ?_))))))
   rintro _ w21 ⟨hb11, k19, z12⟩
   replace hbx6 := hbx6.keep k19 (nm (Ne.symm ne_b2_b3))
   replace hbx7 := hbx7.keep k19 (nm (Ne.symm ne_b2_b4))
   replace hb10 := hb10.keep k19 (nm (Ne.symm ne_b2_b5))
   replace hB := hB.new k19 (nw ge_b2)
   clear z12
   replace hb11 := gV (g := hh6) hb11
   refine oga rfl rfl (a6 (cS hfin Tryz.results27 rfl (ak dd bx hb11 rfl) rfl ?_))
   exact ⟨hh6, rfl, (by have e : PtR hh6 (pmul (topN xs j) a) := E6; rw [hc2, ou] at e; exact e), hB⟩
  ·
   refine af (a5 (a5 (aZ (ogm rfl rfl (a6 (ab (d8 4 (a5 (aZ (a7 (bd rfl rfl) rfl (a6 (a5 (bg rfl (by decide) (af (a5 (ab (aZ (a7 (aa (cs' := [_, _, _, _, _, _, _, _, _, _, _, _, _, _, _, _, _, _, _, _]) dd bx rfl hb10 rfl rfl) rfl (ad (a8 (vs := [_]) rfl (doubleR E6 (dY ha _) _)) rfl ?_)))))))))))))))))))
   rintro _ w22 ⟨hh7, rfl, E7, k20⟩
   obtain ⟨hB, hbx4, hbx6, hbx7, hb10⟩ := dw k20 hB hbx4 hbx6 hbx7 hb10
   replace E7 : PtR hh7 (pmul ((topN xs j) * 2) a) := by rw [← fy ha]; exact E7
   refine ae (bB bx rfl rfl rfl ai hb10 rfl) ?_
   rintro _ w23 ⟨hb12, k21, z13⟩
   replace hbx4 := hbx4.keep k21 (nm ne_b2_b5)
   replace hbx6 := hbx6.keep k21 (nm ne_b3_b5)
   replace hbx7 := hbx7.keep k21 (nm ne_b4_b5)
   replace hB := hB.new k21 (nw ge_b5)
   clear z13
   replace hb12 := gV (g := hh7) hb12
   refine a6 (bZ (aZ (a7 (bC (j := 1) (ay rfl rfl) (by decide)) rfl (ogm rfl rfl (a6 (cH (a5 (aZ (a7 (bd rfl rfl) rfl (a6 (a5 (bg rfl (by decide) (af (a5 (ab (aZ (a7 (aa (cs' := [_, _, _, _, _, _, _, _, _, _, _, _, _, _, _, _, _, _, _, _]) dd bx rfl hb12 rfl rfl) rfl (ad (a8 (vs := [_]) rfl (doubleR E7 (dY ha _) _)) rfl ?_))))))))))))))))))
   rintro _ w24 ⟨hh8, rfl, E8, k22⟩
   obtain ⟨hB, hbx4, hbx6, hbx7, hb12⟩ := dw k22 hB hbx4 hbx6 hbx7 hb12
   replace E8 : PtR hh8 (pmul (((topN xs j) * 2) * 2) a) := by rw [← fy ha]; exact E8
   refine ae (bB bx rfl rfl rfl ai hb12 rfl) ?_
   rintro _ w25 ⟨hb13, k23, z14⟩
   replace hbx4 := hbx4.keep k23 (nm ne_b2_b5)
   replace hbx6 := hbx6.keep k23 (nm ne_b3_b5)
   replace hbx7 := hbx7.keep k23 (nm ne_b4_b5)
   replace hB := hB.new k23 (nw ge_b5)
   clear z14
   replace hb13 := gV (g := hh8) hb13
   refine a6 (bZ (aZ (a7 (bC (j := 2) (ay rfl rfl) (by decide)) rfl (ogm rfl rfl (a6 (cH (a5 (aZ (a7 (bd rfl rfl) rfl (a6 (a5 (bg rfl (by decide) (af (a5 (ab (aZ (a7 (aa (cs' := [_, _, _, _, _, _, _, _, _, _, _, _, _, _, _, _, _, _, _, _]) dd bx rfl hb13 rfl rfl) rfl (ad (a8 (vs := [_]) rfl (doubleR E8 (dY ha _) _)) rfl ?_))))))))))))))))))
   rintro _ w26 ⟨hh9, rfl, E9, k24⟩
   obtain ⟨hB, hbx4, hbx6, hbx7, hb13⟩ := dw k24 hB hbx4 hbx6 hbx7 hb13
   replace E9 : PtR hh9 (pmul ((((topN xs j) * 2) * 2) * 2) a) := by rw [← fy ha]; exact E9
   refine ae (bB bx rfl rfl rfl ai hb13 rfl) ?_
   rintro _ w27 ⟨hb14, k25, z15⟩
   replace hbx4 := hbx4.keep k25 (nm ne_b2_b5)
   replace hbx6 := hbx6.keep k25 (nm ne_b3_b5)
   replace hbx7 := hbx7.keep k25 (nm ne_b4_b5)
   replace hB := hB.new k25 (nw ge_b5)
   clear z15
   replace hb14 := gV (g := hh9) hb14
   refine a6 (bZ (aZ (a7 (bC (j := 3) (ay rfl rfl) (by decide)) rfl (ogm rfl rfl (a6 (cH (a5 (aZ (a7 (bd rfl rfl) rfl (a6 (a5 (bg rfl (by decide) (af (a5 (ab (aZ (a7 (aa (cs' := [_, _, _, _, _, _, _, _, _, _, _, _, _, _, _, _, _, _, _, _]) dd bx rfl hb14 rfl rfl) rfl (ad (a8 (vs := [_]) rfl (doubleR E9 (dY ha _) _)) rfl ?_))))))))))))))))))
   rintro _ w28 ⟨hh10, rfl, E10, k26⟩
   obtain ⟨hB, hbx4, hbx6, hbx7, hb14⟩ := dw k26 hB hbx4 hbx6 hbx7 hb14
   replace E10 : PtR hh10 (pmul (((((topN xs j) * 2) * 2) * 2) * 2) a) := by rw [← fy ha]; exact E10
   refine ae (bB bx rfl rfl rfl ai hb14 rfl) ?_
   rintro _ w29 ⟨hb15, k27, z16⟩
   replace hbx4 := hbx4.keep k27 (nm ne_b2_b5)
   replace hbx6 := hbx6.keep k27 (nm ne_b3_b5)
   replace hbx7 := hbx7.keep k27 (nm ne_b4_b5)
   replace hB := hB.new k27 (nw ge_b5)
   clear z16
   replace hb15 := gV (g := hh10) hb15
   refine a6 (bZ (aZ (a7 (bC (j := 4) (ay rfl rfl) (by decide)) rfl (ogm rfl rfl (a6 (cH (a5 (aZ (a7 (bd rfl rfl) rfl (a6 (a5 (ci rfl (by decide) (bF rfl (a5 (aZ (ogm rfl rfl (a7 (cj rfl rfl (by omega)) rfl (oga rfl rfl (a6 (a5 (nj rfl (a5 (af (a9 [(1, v), (4, .pointer (some ⟨b2, 0, none⟩)), (6, .pointer (some ⟨b3, 0, none⟩)), (7, .pointer (some ⟨b4, 0, none⟩)), (9, .pointer (some ⟨b5, 0, none⟩)), (10, .int .i64 (j - 1))] ⟨rfl, rfl, rfl, rfl, rfl, rfl, trivial⟩ ?_))))))))))))))))))))))))
   exact again ⟨j - 1, hh10⟩ _ (by show (j - 1 + 1).toNat ≤ _; have : (j + 1).toNat ≤ mm + 1 := hmu; omega) (⟨by omega, by omega, (by rw [show j - 1 + 1 = j by omega, show topN xs j * 16 = topN xs j * 2 * 2 * 2 * 2 by omega]; exact E10), hbx4, hbx6, hbx7, hb15, hB⟩)
theorem df (f : Nat → Int) (hf : Sml f) (w : World) : Rets Tryz.prog 98 [.agg (iv .i64 16 f).toArray] w (fun v w' => ∃ g, v = .agg (iv .i64 16 g).toArray ∧ Car f g ∧ Keep [] w w') := by
 have hB : Keep [] w w := Keep.refl _ _
 refine ac Tryz.func98 rfl (by decide) Tryz.ntmps98 rfl (fun fin _ hfin => a5 (aZ (ad (bc (cs := iv .i64 16 f) rfl rfl) rfl ?_)))
 rintro _ w1 ⟨b1, rfl, eb1, hb1, k1, z1⟩
 have ge_b1 : w.heap.size ≤ b1 := by have := hB.size; omega
 replace hB := hB.trans k1
 clear eb1 z1
 refine ad (aj bA) rfl ?_
 rintro _ w2 ⟨b2, rfl, eb2, hb2, k2, z2⟩
 have ge_b2 : w.heap.size ≤ b2 := by have := hB.size; omega
 have ne_b1_b2 : b1 ≠ b2 := by have := hb1.lt; omega
 obtain ⟨hB, hb1⟩ := bN k2 hB hb1
 clear eb2 z2
 replace hb2 : Bk w2 b2 65 (iv .i64 16 (fun _ => 0)) := by rw [iv, bE]; exact hb2
 refine a6 (a5 (a5 (aZ (oga rfl rfl (a6 (ab (bK (Γ := Nat × (Nat → Int)) (fun ⟨i, g⟩ => [(1, .pointer (some ⟨b1, 0, none⟩)), (2, .pointer (some ⟨b2, 0, none⟩)), (3, .int .i64 (i : Int))]) (fun ⟨i, g⟩ W => CarI f g i ∧ Bk W b1 65 (iv .i64 16 g) ∧ Bk W b2 65 (iv .i64 16 (fun _ => 0)) ∧ Keep [] w W) (fun ⟨i, g⟩ => 16 - i) ⟨0, f⟩ ⟨rfl, rfl, rfl, trivial⟩ (⟨n5 hf, hb1, hb2, hB⟩) ?_)))))))
 rintro ⟨i, g⟩ w3 ⟨hI, hbx1, hbx2, hB⟩
 refine a9 [(1, .pointer (some ⟨b1, 0, none⟩)), (2, .pointer (some ⟨b2, 0, none⟩)), (3, .int .i64 (i : Int))] ⟨rfl, rfl, rfl, trivial⟩ (a5 (a5 (aZ (ogm rfl rfl (a7 (bd rfl rfl) rfl (a6 (bT rfl (fun hc1 => ?_) (fun hc1 => ?_))))))))
 ·
  refine af (a5 (ab (a5 (aZ (ogm rfl rfl (a7 (ax 0 aE rfl dV (by decide) rfl rfl) rfl (a7 (ar i aF cU rfl rfl (by omega) (by omega)) rfl ?_)))))))
  have hi16 : i < 16 := by omega
  refine an (e' := g i) (lo := (-144115188075855872)) (hi := 144115188075855872) (ah dc rfl hbx1 (bO hi16)) (rfl) (oX hI hi16) rfl (fun z3 h1 r1 => an (e' := z3 / 65536) (lo := (-2199023255552)) (hi := 2199023255552) (cI (m := 65536) rfl rfl (by decide) rfl) (rfl) (In.wk (bl r1 (by decide)) rfl) rfl (fun z4 h2 r2 => oga rfl rfl (a6 (a5 (aZ (ogm rfl rfl (ogm rfl rfl (a7 (ax 0 aE rfl dV (by decide) rfl rfl) rfl (a7 (ar i aF cU rfl rfl (by omega) (by omega)) rfl (an (e' := g i) (lo := (-144115188075855872)) (hi := 144115188075855872) (ah dc rfl hbx1 (bO hi16)) (rfl) (oX hI hi16) rfl (fun z5 h3 r3 => ogm rfl rfl (an (e' := z4 * 65536) (lo := (-144115188075855872)) (hi := 144115188075855872) (dk (m := 65536) rfl rfl (by decide) rfl) (ap (dE r2 (by decide)) rfl) (In.wk (dE r2 (by decide)) rfl) rfl (fun z6 h4 r4 => an (e' := z5 - z6) (lo := (-288230376151711744)) (hi := 288230376151711744) (cY rfl rfl) (ap (cW r3 r4) rfl) (In.wk (cW r3 r4) rfl) rfl (fun z7 h5 r5 => a7 (ax 0 aE rfl dV (by decide) rfl rfl) rfl (a7 (ar i aF cU rfl rfl (by omega) (by omega)) rfl ?_)))))))))))))))
  refine ae (ck (v := z7) cU rfl rfl hbx1 (by omega)) ?_
  rintro _ w4 ⟨hb3, k3, z8⟩
  replace hbx2 := hbx2.keep k3 (nm (Ne.symm ne_b1_b2))
  replace hB := hB.new k3 (nw ge_b1)
  clear z8
  refine a6 (a9 [(1, _), (2, _), (3, _), (4, _)] ⟨rfl, rfl, rfl, rfl, trivial⟩ (a5 (aZ (ogm rfl rfl (a7 (bd rfl rfl) rfl (a6 (bT rfl (fun hc2 => ?_) (fun hc2 => ?_))))))))
  ·
   refine aZ (ogm rfl rfl (a7 (bi rfl rfl (by omega)) rfl (ogm rfl rfl (a7 (bi rfl rfl (by omega)) rfl (a7 (ax 0 aE rfl dV (by decide) rfl rfl) rfl (a7 (ar (i + 1) aF cU rfl rfl (by omega) (by omega)) rfl ?_))))))
   have hi15 : i < 15 := by omega
   refine an (e' := g (i + 1)) (lo := (-72057594037927936)) (hi := 72057594037927936) (ah dc rfl hb3 (bO (by omega))) (av _ _ (by omega)) (kN hf hI hi15) rfl (fun z9 h6 r6 => ogm rfl rfl (an (e' := z9 + z4) (lo := (-72059793061183488)) (hi := 72059793061183488) (ay rfl rfl) (ap (aw r6 r2) rfl) (In.wk (aw r6 r2) rfl) rfl (fun z10 h7 r7 => a7 (ax 0 aE rfl dV (by decide) rfl rfl) rfl (a7 (ar (i + 1) aF cU rfl rfl (by omega) (by omega)) rfl (ae (ck (v := z10) cU rfl rfl hb3 (by omega)) ?_)))))
   rintro _ w5 ⟨hb4, k4, z11⟩
   replace hbx2 := hbx2.keep k4 (nm (Ne.symm ne_b1_b2))
   replace hB := hB.new k4 (nw ge_b1)
   clear z11
   refine a6 (a9 [(1, _), (2, _), (3, _)] ⟨rfl, rfl, rfl, trivial⟩ (bZ (aZ (ogm rfl rfl (a7 (bi rfl rfl (by omega)) rfl (oga rfl rfl (a6 (bM (Γ := Nat × (Nat → Int)) ⟨i + 1, _⟩ ⟨rfl, rfl, rfl, trivial⟩ (by (try dsimp only); omega) (⟨qF hf hI hi15 (show Eqn z4 (g i / 65536) from by have a := h2; have b := h1; unfold Eqn at *; rw [b] at a; exact a) h4 (show Eqn z7 (g i - z6) from by have a := h5; have b := h3; unfold Eqn at *; rw [b] at a; exact a) (show Eqn z10 (g (i + 1) + z4) from by have a := h7; have b := h6; unfold Eqn at *; rw [b] at a; exact a), hb4, hbx2, hB⟩)))))))))
  ·
   refine aZ (a7 (ax 0 aE rfl dV (by decide) rfl rfl) rfl (a7 (ar 0 aF cU rfl rfl (by omega) (by omega)) rfl (an (e' := g 0) (lo := 0) (hi := 65535) (ah dc rfl hb3 (bO (by decide))) (av _ _ (by omega)) (qE hI hi16 (by omega)) rfl (fun z12 h8 r8 => ogm rfl rfl (an (e' := 38 * z4) (lo := (-83562883710976)) (hi := 83562883710976) (dZ rfl rfl) (ap (dF r2 (by decide)) rfl) (In.wk (dF r2 (by decide)) rfl) rfl (fun z13 h9 r9 => an (e' := z12 + z13) (lo := (-83562883710976)) (hi := 83562883776511) (ay rfl rfl) (ap (aw r8 r9) rfl) (In.wk (aw r8 r9) rfl) rfl (fun z14 h10 r10 => a7 (ax 0 aE rfl dV (by decide) rfl rfl) rfl (a7 (ar 0 aF cU rfl rfl (by omega) (by omega)) rfl (ae (ck (v := z14) cU rfl rfl hb3 (by omega)) ?_)))))))))
   rintro _ w6 ⟨hb5, k5, z15⟩
   replace hbx2 := hbx2.keep k5 (nm (Ne.symm ne_b1_b2))
   replace hB := hB.new k5 (nw ge_b1)
   clear z15
   refine a6 (a9 [(1, _), (2, _), (3, _)] ⟨rfl, rfl, rfl, trivial⟩ (bZ (aZ (ogm rfl rfl (a7 (bi rfl rfl (by omega)) rfl (oga rfl rfl (a6 (bM (Γ := Nat × (Nat → Int)) ⟨i + 1, _⟩ ⟨rfl, rfl, rfl, trivial⟩ (by (try dsimp only); omega) (⟨qG hI hi16 ‹_› (show Eqn z4 (g i / 65536) from by have a := h2; have b := h1; unfold Eqn at *; rw [b] at a; exact a) h4 (show Eqn z7 (g i - z6) from by have a := h5; have b := h3; unfold Eqn at *; rw [b] at a; exact a) h9 (show Eqn z14 (g 0 + z13) from by have a := h10; have b := h8; unfold Eqn at *; rw [b] at a; exact a), hb5, hbx2, hB⟩)))))))))
 ·
  refine bF rfl (a5 (aZ (a7 (aa (cs' := iv .i64 16 g) bm bA rfl hbx1 rfl rfl) rfl (ae (bh (vs := iv .i64 16 g) bA rfl rfl rfl ai hbx2 rfl) ?_))))
  rintro _ w7 ⟨hb6, k6, z16⟩
  replace hB := hB.new k6 (nw ge_b2)
  clear z16
  refine a6 (ba hfin Tryz.results98 rfl (ak bm bA hb6 rfl)  ?_)
  exact ⟨g, rfl, sM hI ‹_›, hB⟩
theorem fK (f g : Nat → Int) (a b : Fp) (hf : RN f a) (hg : RN g b) (w : World) : Rets Tryz.prog 77 [.agg (iv .i64 16 f).toArray, .agg (iv .i64 16 g).toArray] w (fun v w' => ∃ r, v = .agg (iv .i64 16 r).toArray ∧ RN r (a + b) ∧ Keep [] w w') := by
  have hB : Keep [] w w := Keep.refl _ _
  refine ac Tryz.func77 rfl (by decide) Tryz.ntmps77 rfl (fun fin _ hfin => a5 (aZ (ad (bc (cs := iv .i64 16 f) rfl rfl) rfl ?_)))
  rintro _ w1 ⟨b1, rfl, eb1, hb1, k1, z1⟩
  have ge_b1 : w.heap.size ≤ b1 := by have := hB.size; omega
  replace hB := hB.trans k1
  clear eb1 z1
  refine ad (bc (cs := iv .i64 16 g) rfl rfl) rfl ?_
  rintro _ w2 ⟨b2, rfl, eb2, hb2, k2, z2⟩
  have ne_b1_b2 : b1 ≠ b2 := by have := hb1.lt; omega
  obtain ⟨hB, hb1⟩ := bN k2 hB hb1
  clear eb2 z2
  refine ad (aj bA) rfl ?_
  rintro _ w3 ⟨b3, rfl, eb3, hb3, k3, z3⟩
  have ge_b3 : w.heap.size ≤ b3 := by have := hB.size; omega
  have ne_b1_b3 : b1 ≠ b3 := by have := hb1.lt; omega
  obtain ⟨hB, hb1, hb2⟩ := ca k3 hB hb1 hb2
  clear eb3 z3
  replace hb3 : Bk w3 b3 65 (iv .i64 16 (fun _ => 0)) := by rw [iv, bE]; exact hb3
  refine a6 (a5 (a5 (aZ (oga rfl rfl (a6 (ab (bK (Γ := Nat × (Nat → Int)) (fun ⟨i, h⟩ => [(2, .pointer (some ⟨b1, 0, none⟩)), (3, .pointer (some ⟨b2, 0, none⟩)), (4, .pointer (some ⟨b3, 0, none⟩)), (5, .int .i64 (i : Int))]) (fun ⟨i, h⟩ W => i ≤ 16 ∧ Part (fun j => f j + g j) f h i ∧ Bk W b1 65 (iv .i64 16 h) ∧ Bk W b2 65 (iv .i64 16 g) ∧ Bk W b3 65 (iv .i64 16 (fun _ => 0)) ∧ Keep [] w W) (fun ⟨i, h⟩ => 16 - i) ⟨0, f⟩ ⟨rfl, rfl, rfl, rfl, trivial⟩ (⟨by decide, eq _ _, hb1, hb2, hb3, hB⟩) ?_)))))))
  rintro ⟨i, h⟩ w4 ⟨hi, hI, hbx2, hbx3, hbx4, hB⟩
  refine a9 [(2, .pointer (some ⟨b1, 0, none⟩)), (3, .pointer (some ⟨b2, 0, none⟩)), (4, .pointer (some ⟨b3, 0, none⟩)), (5, .int .i64 (i : Int))] ⟨rfl, rfl, rfl, rfl, trivial⟩ (a5 (a5 (aZ (ogm rfl rfl (a7 (bd rfl rfl) rfl (a6 (bT rfl (fun hc1 => ?_) (fun hc1 => ?_))))))))
  · -- yes
    refine af (a5 (ab (bW 11 [0, 1, 2, 3, 4, 5, 6, 7, 8, 9, 10] [] [] [] mixed [(5, _), (2, _), (3, _), (4, _)] ⟨rfl, rfl, rfl, rfl, trivial⟩ (by decide +kernel) (by decide) (by decide) ?_ (fun x hx => by cases hx) rfl (fun w5 k4 => ?_))))
    · intro q hq; cases hq
    obtain ⟨hB, hbx2, hbx3, hbx4⟩ := dG k4 hB hbx2 hbx3 hbx4
    refine bu 5 rfl rfl rfl rfl rfl (bu 5 rfl rfl rfl rfl rfl (al 2 rfl rfl rfl rfl (fun W' kk => ax 0 aE rfl dV (by decide) rfl rfl) (cn 11 12 rfl rfl rfl rfl rfl (fun W' kk => ar i aF cU rfl rfl (by omega) (by omega)) ?_)))
    have hi16 : i < 16 := by omega
    refine dg (e' := f i) (lo := (-4096)) (hi := 69631) [(13, _)] rfl rfl ⟨rfl, trivial⟩ rfl (fun W' kk => ah dc rfl (Bk.s8 hbx2 kk) (bO hi16)) (hI.2 i (Nat.le_refl _)) (e9 hf i hi16) (fun z4 h1 r1 => bu 5 rfl rfl rfl rfl rfl (al 3 rfl rfl rfl rfl (fun W' kk => ax 0 aE rfl dV (by decide) rfl rfl) (cn 15 16 rfl rfl rfl rfl rfl (fun W' kk => ar i aF cU rfl rfl (by omega) (by omega)) (dg (e' := g i) (lo := (-4096)) (hi := 69631) [(17, _)] rfl rfl ⟨rfl, trivial⟩ rfl (fun W' kk => ah dc rfl (Bk.s8 hbx3 kk) (bO hi16)) (rfl) (e9 hg i hi16) (fun z5 h2 r2 => dg (e' := z4 + z5) (lo := (-8192)) (hi := 139262) [(14, _), (18, _)] rfl rfl ⟨rfl, rfl, trivial⟩ rfl (fun W' kk => ay rfl rfl) (ap (aw r1 r2) rfl) (In.wk (aw r1 r2) rfl) (fun z6 h3 r3 => al 2 rfl rfl rfl rfl (fun W' kk => ax 0 aE rfl dV (by decide) rfl rfl) (cC (fun w6 k5 => ?_))))))))
    obtain ⟨hB, hbx2, hbx3, hbx4⟩ := dG k5 hB hbx2 hbx3 hbx4
    refine bX (a7 (ar i aF cU rfl rfl (by omega) (by omega)) rfl (ae (ck (v := z6) cU rfl rfl hbx2 (by omega)) ?_))
    rintro _ w7 ⟨hb4, k6, z7⟩
    replace hbx3 := hbx3.keep k6 (nm (Ne.symm ne_b1_b2))
    replace hbx4 := hbx4.keep k6 (nm (Ne.symm ne_b1_b3))
    replace hB := hB.new k6 (nw ge_b1)
    clear z7
    refine a6 (a9 [(5, _), (2, _), (3, _), (4, _)] ⟨rfl, rfl, rfl, rfl, trivial⟩ (bZ (aZ (ogm rfl rfl (a7 (bi rfl rfl (by omega)) rfl (oga rfl rfl (a6 (bM (Γ := Nat × (Nat → Int)) ⟨i + 1, _⟩ ⟨rfl, rfl, rfl, rfl, trivial⟩ (by (try dsimp only); omega) (⟨by omega, fL hI (by have a := h1; have b := h2; have c := h3; unfold Eqn at *; rw [c, a, b]), hb4, hbx3, hbx4, hB⟩)))))))))
  · -- no
    refine bF rfl (a5 (aZ (a7 (aa (cs' := iv .i64 16 h) bm bA rfl hbx2 rfl rfl) rfl (ad (a8 (vs := [_]) rfl (df _ (add_sml hf hg (fun j hj => hI.1 j (by omega))) _)) rfl ?_))))
    rintro _ w8 ⟨hh1, rfl, E1, k7⟩
    obtain ⟨hB, hbx4⟩ := bN k7 hB hbx4
    refine ae (bh (vs := iv .i64 16 hh1) bA rfl rfl rfl ai hbx4 rfl) ?_
    rintro _ w9 ⟨hb5, k8, z8⟩
    replace hB := hB.new k8 (nw ge_b3)
    clear z8
    refine a6 (ba hfin Tryz.results77 rfl (ak bm bA hb5 rfl)  ?_)
    exact ⟨hh1, rfl, rn_add hf hg (fun j hj => hI.1 j (by omega)) E1, hB⟩
theorem eF (f g : Nat → Int) (a b : Fp) (hf : RN f a) (hg : RN g b) (w : World) : Rets Tryz.prog 76 [.agg (iv .i64 16 f).toArray, .agg (iv .i64 16 g).toArray] w (fun v w' => ∃ r, v = .agg (iv .i64 16 r).toArray ∧ RN r (a - b) ∧ Keep [] w w') := by
  have hB : Keep [] w w := Keep.refl _ _
  refine ac Tryz.func76 rfl (by decide) Tryz.ntmps76 rfl (fun fin _ hfin => a5 (aZ (ad (bc (cs := iv .i64 16 f) rfl rfl) rfl ?_)))
  rintro _ w1 ⟨b1, rfl, eb1, hb1, k1, z1⟩
  have ge_b1 : w.heap.size ≤ b1 := by have := hB.size; omega
  replace hB := hB.trans k1
  clear eb1 z1
  refine ad (bc (cs := iv .i64 16 g) rfl rfl) rfl ?_
  rintro _ w2 ⟨b2, rfl, eb2, hb2, k2, z2⟩
  have ne_b1_b2 : b1 ≠ b2 := by have := hb1.lt; omega
  obtain ⟨hB, hb1⟩ := bN k2 hB hb1
  clear eb2 z2
  refine ad (aj bA) rfl ?_
  rintro _ w3 ⟨b3, rfl, eb3, hb3, k3, z3⟩
  have ge_b3 : w.heap.size ≤ b3 := by have := hB.size; omega
  have ne_b1_b3 : b1 ≠ b3 := by have := hb1.lt; omega
  obtain ⟨hB, hb1, hb2⟩ := ca k3 hB hb1 hb2
  clear eb3 z3
  replace hb3 : Bk w3 b3 65 (iv .i64 16 (fun _ => 0)) := by rw [iv, bE]; exact hb3
  refine a6 (a5 (a5 (aZ (oga rfl rfl (a6 (ab (bK (Γ := Nat × (Nat → Int)) (fun ⟨i, h⟩ => [(2, .pointer (some ⟨b1, 0, none⟩)), (3, .pointer (some ⟨b2, 0, none⟩)), (4, .pointer (some ⟨b3, 0, none⟩)), (5, .int .i64 (i : Int))]) (fun ⟨i, h⟩ W => i ≤ 16 ∧ Part (fun j => f j - g j) f h i ∧ Bk W b1 65 (iv .i64 16 h) ∧ Bk W b2 65 (iv .i64 16 g) ∧ Bk W b3 65 (iv .i64 16 (fun _ => 0)) ∧ Keep [] w W) (fun ⟨i, h⟩ => 16 - i) ⟨0, f⟩ ⟨rfl, rfl, rfl, rfl, trivial⟩ (⟨by decide, eq _ _, hb1, hb2, hb3, hB⟩) ?_)))))))
  rintro ⟨i, h⟩ w4 ⟨hi, hI, hbx2, hbx3, hbx4, hB⟩
  refine a9 [(2, .pointer (some ⟨b1, 0, none⟩)), (3, .pointer (some ⟨b2, 0, none⟩)), (4, .pointer (some ⟨b3, 0, none⟩)), (5, .int .i64 (i : Int))] ⟨rfl, rfl, rfl, rfl, trivial⟩ (a5 (a5 (aZ (ogm rfl rfl (a7 (bd rfl rfl) rfl (a6 (bT rfl (fun hc1 => ?_) (fun hc1 => ?_))))))))
  · -- yes
    refine af (a5 (ab (bW 11 [0, 1, 2, 3, 4, 5, 6, 7, 8, 9, 10] [] [] [] mixed [(5, _), (2, _), (3, _), (4, _)] ⟨rfl, rfl, rfl, rfl, trivial⟩ (by decide +kernel) (by decide) (by decide) ?_ (fun x hx => by cases hx) rfl (fun w5 k4 => ?_))))
    · intro q hq; cases hq
    obtain ⟨hB, hbx2, hbx3, hbx4⟩ := dG k4 hB hbx2 hbx3 hbx4
    refine bu 5 rfl rfl rfl rfl rfl (bu 5 rfl rfl rfl rfl rfl (al 2 rfl rfl rfl rfl (fun W' kk => ax 0 aE rfl dV (by decide) rfl rfl) (cn 11 12 rfl rfl rfl rfl rfl (fun W' kk => ar i aF cU rfl rfl (by omega) (by omega)) ?_)))
    have hi16 : i < 16 := by omega
    refine dg (e' := f i) (lo := (-4096)) (hi := 69631) [(13, _)] rfl rfl ⟨rfl, trivial⟩ rfl (fun W' kk => ah dc rfl (Bk.s8 hbx2 kk) (bO hi16)) (hI.2 i (Nat.le_refl _)) (e9 hf i hi16) (fun z4 h1 r1 => bu 5 rfl rfl rfl rfl rfl (al 3 rfl rfl rfl rfl (fun W' kk => ax 0 aE rfl dV (by decide) rfl rfl) (cn 15 16 rfl rfl rfl rfl rfl (fun W' kk => ar i aF cU rfl rfl (by omega) (by omega)) (dg (e' := g i) (lo := (-4096)) (hi := 69631) [(17, _)] rfl rfl ⟨rfl, trivial⟩ rfl (fun W' kk => ah dc rfl (Bk.s8 hbx3 kk) (bO hi16)) (rfl) (e9 hg i hi16) (fun z5 h2 r2 => dg (e' := z4 - z5) (lo := (-73727)) (hi := 73727) [(14, _), (18, _)] rfl rfl ⟨rfl, rfl, trivial⟩ rfl (fun W' kk => cY rfl rfl) (ap (cW r1 r2) rfl) (In.wk (cW r1 r2) rfl) (fun z6 h3 r3 => al 2 rfl rfl rfl rfl (fun W' kk => ax 0 aE rfl dV (by decide) rfl rfl) (cC (fun w6 k5 => ?_))))))))
    obtain ⟨hB, hbx2, hbx3, hbx4⟩ := dG k5 hB hbx2 hbx3 hbx4
    refine bX (a7 (ar i aF cU rfl rfl (by omega) (by omega)) rfl (ae (ck (v := z6) cU rfl rfl hbx2 (by omega)) ?_))
    rintro _ w7 ⟨hb4, k6, z7⟩
    replace hbx3 := hbx3.keep k6 (nm (Ne.symm ne_b1_b2))
    replace hbx4 := hbx4.keep k6 (nm (Ne.symm ne_b1_b3))
    replace hB := hB.new k6 (nw ge_b1)
    clear z7
    refine a6 (a9 [(5, _), (2, _), (3, _), (4, _)] ⟨rfl, rfl, rfl, rfl, trivial⟩ (bZ (aZ (ogm rfl rfl (a7 (bi rfl rfl (by omega)) rfl (oga rfl rfl (a6 (bM (Γ := Nat × (Nat → Int)) ⟨i + 1, _⟩ ⟨rfl, rfl, rfl, rfl, trivial⟩ (by (try dsimp only); omega) (⟨by omega, fL hI (by have a := h1; have b := h2; have c := h3; unfold Eqn at *; rw [c, a, b]), hb4, hbx3, hbx4, hB⟩)))))))))
  · -- no
    refine bF rfl (a5 (aZ (a7 (aa (cs' := iv .i64 16 h) bm bA rfl hbx2 rfl rfl) rfl (ad (a8 (vs := [_]) rfl (df _ (sub_sml hf hg (fun j hj => hI.1 j (by omega))) _)) rfl ?_))))
    rintro _ w8 ⟨hh1, rfl, E1, k7⟩
    obtain ⟨hB, hbx4⟩ := bN k7 hB hbx4
    refine ae (bh (vs := iv .i64 16 hh1) bA rfl rfl rfl ai hbx4 rfl) ?_
    rintro _ w9 ⟨hb5, k8, z8⟩
    replace hB := hB.new k8 (nw ge_b3)
    clear z8
    refine a6 (ba hfin Tryz.results76 rfl (ak bm bA hb5 rfl)  ?_)
    exact ⟨hh1, rfl, rn_sub hf hg (fun j hj => hI.1 j (by omega)) E1, hB⟩
theorem pR (v : Value) (xs : List UInt8) (w : World) (hv : RdB w v xs) (hx : xs.length = 32) : Rets Tryz.prog 71 [v] w (fun v w' => ∃ r, v = .agg (iv .i64 16 r).toArray ∧ RN r (fp (leI xs)) ∧ Keep [] w w') := by
  have hB : Keep [] w w := Keep.refl _ _
  refine ac Tryz.func71 rfl (by decide) Tryz.ntmps71 rfl (fun fin _ hfin => a5 (aZ (ad (aj bA) rfl ?_)))
  rintro _ w1 ⟨b1, rfl, eb1, hb1, k1, z1⟩
  have ge_b1 : w.heap.size ≤ b1 := by have := hB.size; omega
  replace hB := hB.trans k1
  clear eb1 z1
  replace hb1 : Bk w1 b1 65 (iv .i64 16 (fun _ => 0)) := by rw [iv, bE]; exact hb1
  refine a6 (a5 (aZ (ad (aj bA) rfl ?_)))
  rintro _ w2 ⟨b2, rfl, eb2, hb2, k2, z2⟩
  have ge_b2 : w.heap.size ≤ b2 := by have := hB.size; omega
  have ne_b1_b2 : b1 ≠ b2 := by have := hb1.lt; omega
  obtain ⟨hB, hb1⟩ := bN k2 hB hb1
  clear eb2 z2
  replace hb2 : Bk w2 b2 65 (iv .i64 16 (fun _ => 0)) := by rw [iv, bE]; exact hb2
  refine a6 (a5 (a5 (aZ (oga rfl rfl (a6 (ab (bK (Γ := Nat × (Nat → Int)) (fun ⟨i, h⟩ => [(0, v), (2, .pointer (some ⟨b1, 0, none⟩)), (3, .pointer (some ⟨b2, 0, none⟩)), (4, .int .i64 (i : Int))]) (fun ⟨i, h⟩ W => i ≤ 16 ∧ Part (pairs xs) (fun _ => 0) h i ∧ Bk W b1 65 (iv .i64 16 (fun _ => 0)) ∧ Bk W b2 65 (iv .i64 16 h) ∧ Keep [] w W) (fun ⟨i, h⟩ => 16 - i) ⟨0, _⟩ ⟨rfl, rfl, rfl, rfl, trivial⟩ (⟨by decide, eq _ _, hb1, hb2, hB⟩) ?_)))))))
  rintro ⟨i, h⟩ w3 ⟨hi, hI, hbx2, hbx3, hB⟩
  refine a9 [(0, v), (2, .pointer (some ⟨b1, 0, none⟩)), (3, .pointer (some ⟨b2, 0, none⟩)), (4, .int .i64 (i : Int))] ⟨rfl, rfl, rfl, rfl, trivial⟩ (a5 (a5 (aZ (ogm rfl rfl (a7 (bd rfl rfl) rfl (a6 (bT rfl (fun hc1 => ?_) (fun hc1 => ?_))))))))
  · -- yes
    refine af (a5 (ab (bW 17 [0, 1, 2, 3, 4, 5, 6, 7, 8, 9, 10, 11, 12, 13, 14, 15, 16] [] [] [] mixed [(4, _), (0, _), (3, _), (2, _)] ⟨rfl, rfl, rfl, rfl, trivial⟩ (by decide +kernel) (by decide) (by decide) ?_ (fun x hx => by cases hx) rfl (fun w4 k3 => ?_))))
    · intro q hq; cases hq
    obtain ⟨hB, hbx2, hbx3⟩ := ca k3 hB hbx2 hbx3
    refine bu 4 rfl rfl rfl rfl rfl (bu 0 rfl rfl rfl rfl rfl (bu 4 rfl rfl rfl rfl rfl (al 11 rfl rfl rfl rfl (fun W' kk => fR rfl rfl (by omega)) (cn 10 12 rfl rfl rfl rfl rfl (fun W' kk => bk aA cg rfl (by first | exact Rd.s8 (by assumption) kk | exact Rd.s8 (Own.rd (by assumption)) kk | exact Rd.s8 (Rd.s8 (by assumption) hB) kk | exact Rd.s8 (Own.rd (Own.s8 (by assumption) hB)) kk) rfl (by omega)) (al 13 rfl rfl rfl rfl (fun W' kk => dT iI rfl (by first | exact Rd.s8 (by assumption) kk | exact Rd.s8 (Own.rd (by assumption)) kk | exact Rd.s8 (Rd.s8 (by assumption) hB) kk | exact Rd.s8 (Own.rd (Own.s8 (by assumption) hB)) kk) (by omega)) (dg (e' := (gb xs ((2 * (i : Int))))) (lo := 0) (hi := 255) [(14, _)] rfl rfl ⟨rfl, trivial⟩ rfl (fun W' kk => eb (by rw [aH]; rfl) aJ rfl) (ap (cG xs ((2 * (i : Int)))) rfl) ((cG xs ((2 * (i : Int))))) (fun z3 h1 r1 => bu 0 rfl rfl rfl rfl rfl (bu 4 rfl rfl rfl rfl rfl ?_))))))))
    refine al 17 rfl rfl rfl rfl (fun W' kk => fR rfl rfl (by omega)) (al 18 rfl rfl rfl rfl (fun W' kk => bi rfl rfl (by omega)) (cn 16 19 rfl rfl rfl rfl rfl (fun W' kk => bk aA cg rfl (by first | exact Rd.s8 (by assumption) kk | exact Rd.s8 (Own.rd (by assumption)) kk | exact Rd.s8 (Rd.s8 (by assumption) hB) kk | exact Rd.s8 (Own.rd (Own.s8 (by assumption) hB)) kk) rfl (by omega)) (al 20 rfl rfl rfl rfl (fun W' kk => dT iI rfl (by first | exact Rd.s8 (by assumption) kk | exact Rd.s8 (Own.rd (by assumption)) kk | exact Rd.s8 (Rd.s8 (by assumption) hB) kk | exact Rd.s8 (Own.rd (Own.s8 (by assumption) hB)) kk) (by omega)) (dg (e' := (gb xs (((2 * (i : Int)) + 1)))) (lo := 0) (hi := 255) [(21, _)] rfl rfl ⟨rfl, trivial⟩ rfl (fun W' kk => eb (by rw [aH]; rfl) aJ rfl) (ap (cG xs (((2 * (i : Int)) + 1))) rfl) ((cG xs (((2 * (i : Int)) + 1)))) (fun z4 h2 r2 => dg (e' := z4 * 256) (lo := 0) (hi := 65280) [(22, _)] rfl rfl ⟨rfl, trivial⟩ rfl (fun W' kk => dZ rfl rfl) (ap (dE r2 (by decide)) rfl) (In.wk (dE r2 (by decide)) rfl) (fun z5 h3 r3 => dg (e' := z3 + z5) (lo := 0) (hi := 65535) [(15, _), (23, _)] rfl rfl ⟨rfl, rfl, trivial⟩ rfl (fun W' kk => ay rfl rfl) (ap (aw r1 r3) rfl) (In.wk (aw r1 r3) rfl) (fun z6 h4 r4 => ?_)))))))
    refine al 3 rfl rfl rfl rfl (fun W' kk => ax 0 aE rfl dV (by decide) rfl rfl) (cC (fun w5 k4 => ?_))
    obtain ⟨hB, hbx2, hbx3⟩ := ca k4 hB hbx2 hbx3
    refine bX (a7 (ar i aF cU rfl rfl (by omega) (by omega)) rfl (ae (ck (v := z6) cU rfl rfl hbx3 (by omega)) ?_))
    rintro _ w6 ⟨hb3, k5, z7⟩
    replace hbx2 := hbx2.keep k5 (nm ne_b1_b2)
    replace hB := hB.new k5 (nw ge_b2)
    clear z7
    refine a6 (a9 [(4, _), (0, _), (3, _), (2, _)] ⟨rfl, rfl, rfl, rfl, trivial⟩ (bZ (aZ (ogm rfl rfl (a7 (bi rfl rfl (by omega)) rfl (oga rfl rfl (a6 (bM (Γ := Nat × (Nat → Int)) ⟨i + 1, _⟩ ⟨rfl, rfl, rfl, rfl, trivial⟩ (by (try dsimp only); omega) (⟨by omega, fL hI (by have a := h1; have b := h2; have c := h3; have d := h4; unfold Eqn pairs at *; rw [d, c, a, b]), hbx2, hb3, hB⟩)))))))))
  · -- no
    refine bF rfl (a5 (aZ (a7 (aa (cs' := iv .i64 16 h) bm bA rfl hbx3 rfl rfl) rfl (ae (bh (vs := iv .i64 16 h) bA rfl rfl rfl ai hbx2 rfl) ?_))))
    rintro _ w7 ⟨hb4, k6, z8⟩
    replace hB := hB.new k6 (nw ge_b1)
    clear z8
    refine a6 (ba hfin Tryz.results71 rfl (ak bm bA hb4 rfl)  ?_)
    exact ⟨h, rfl, rn_from hx (fun j hj => hI.1 j (by omega)), hB⟩
theorem cx (x : Int) (hx : In x 0 2147483647) (w : World) : Rets Tryz.prog 73 [.int .i64 x] w (fun v w' => ∃ r, v = .agg (iv .i64 16 r).toArray ∧ RN r (fp x) ∧ (Canl r ∧ vN r 16 = x) ∧ Keep [] w w') := by
 have hB : Keep [] w w := Keep.refl _ _
 refine ac Tryz.func73 rfl (by decide) Tryz.ntmps73 rfl (fun fin _ hfin => a5 (aZ (ad (aj bA) rfl ?_)))
 rintro _ w1 ⟨b1, rfl, eb1, hb1, k1, z1⟩
 have ge_b1 : w.heap.size ≤ b1 := by have := hB.size; omega
 replace hB := hB.trans k1
 clear eb1 z1
 replace hb1 : Bk w1 b1 65 (iv .i64 16 (fun _ => 0)) := by rw [iv, bE]; exact hb1
 refine a6 (a5 (aZ (ad (aj bA) rfl ?_)))
 rintro _ w2 ⟨b2, rfl, eb2, hb2, k2, z2⟩
 have ge_b2 : w.heap.size ≤ b2 := by have := hB.size; omega
 have ne_b1_b2 : b1 ≠ b2 := by have := hb1.lt; omega
 obtain ⟨hB, hb1⟩ := bN k2 hB hb1
 clear eb2 z2
 replace hb2 : Bk w2 b2 65 (iv .i64 16 (fun _ => 0)) := by rw [iv, bE]; exact hb2
 refine a6 (a5 (a5 (aZ (oga rfl rfl (a6 (ab (d8 3 (a5 (a5 (aZ (ogm rfl rfl (a7 (bd rfl rfl) rfl (a6 (bg rfl (by decide) (af (a5 (ab (a5 (aZ (ogm rfl rfl (ogm rfl rfl (an (e' := x % 65536) (lo := 0) (hi := 65535) (co rfl rfl) (jf hx rfl rfl) (In.wk (bb _ (by decide)) rfl) rfl (fun z3 h1 r1 => a7 (ax 0 aE rfl dV (by decide) rfl rfl) rfl (a7 (ar 0 aF cU rfl rfl (by omega) (by omega)) rfl (ae (ck (v := z3) cU rfl rfl hb2 (by omega)) ?_)))))))))))))))))))))))))
 rintro _ w3 ⟨hb3, k3, z4⟩
 replace hb1 := hb1.keep k3 (nm ne_b1_b2)
 replace hB := hB.new k3 (nw ge_b2)
 clear z4
 refine a6 (aZ (ogm rfl rfl (an (e' := x / 65536) (lo := 0) (hi := 32767) (cI (m := 65536) rfl rfl (by decide) rfl) (rfl) (In.wk (bl hx (by decide)) rfl) rfl (fun z5 h2 r2 => oga rfl rfl (a6 (bZ (aZ (ogm rfl rfl (a7 (bC (j := 1) (ay rfl rfl) (by decide)) rfl (oga rfl rfl (a6 (a9 [(0, _), (2, _), (3, _), (4, _)] ⟨rfl, rfl, rfl, rfl, trivial⟩ (cH (a5 (a5 (aZ (ogm rfl rfl (a7 (bd rfl rfl) rfl (a6 (bg rfl (by decide) (af (a5 (ab (a5 (aZ (ogm rfl rfl (ogm rfl rfl (an (e' := z5 % 65536) (lo := 0) (hi := 65535) (co rfl rfl) (jf r2 rfl rfl) (In.wk (bb _ (by decide)) rfl) rfl (fun z6 h3 r3 => a7 (ax 0 aE rfl dV (by decide) rfl rfl) rfl (a7 (ar 1 aF cU rfl rfl (by omega) (by omega)) rfl ?_))))))))))))))))))))))))))))))
 refine ae (ck (v := z6) cU rfl rfl hb3 (by omega)) ?_
 rintro _ w4 ⟨hb4, k4, z7⟩
 replace hb1 := hb1.keep k4 (nm ne_b1_b2)
 replace hB := hB.new k4 (nw ge_b2)
 clear z7
 refine a6 (aZ (ogm rfl rfl (an (e' := z5 / 65536) (lo := 0) (hi := 0) (cI (m := 65536) rfl rfl (by decide) rfl) (rfl) (In.wk (bl r2 (by decide)) rfl) rfl (fun z8 h4 r4 => oga rfl rfl (a6 (bZ (aZ (ogm rfl rfl (a7 (bC (j := 2) (ay rfl rfl) (by decide)) rfl (oga rfl rfl (a6 (a9 [(0, _), (2, _), (3, _), (4, _)] ⟨rfl, rfl, rfl, rfl, trivial⟩ (cH (a5 (a5 (aZ (ogm rfl rfl (a7 (bd rfl rfl) rfl (a6 (bg rfl (by decide) (af (a5 (ab (a5 (aZ (ogm rfl rfl (ogm rfl rfl (an (e' := z8 % 65536) (lo := 0) (hi := 65535) (co rfl rfl) (jf r4 rfl rfl) (In.wk (bb _ (by decide)) rfl) rfl (fun z9 h5 r5 => a7 (ax 0 aE rfl dV (by decide) rfl rfl) rfl (a7 (ar 2 aF cU rfl rfl (by omega) (by omega)) rfl ?_))))))))))))))))))))))))))))))
 refine ae (ck (v := z9) cU rfl rfl hb4 (by omega)) ?_
 rintro _ w5 ⟨hb5, k5, z10⟩
 replace hb1 := hb1.keep k5 (nm ne_b1_b2)
 replace hB := hB.new k5 (nw ge_b2)
 clear z10
 refine a6 (aZ (ogm rfl rfl (an (e' := z8 / 65536) (lo := 0) (hi := 0) (cI (m := 65536) rfl rfl (by decide) rfl) (rfl) (In.wk (bl r4 (by decide)) rfl) rfl (fun z11 h6 r6 => oga rfl rfl (a6 (bZ (aZ (ogm rfl rfl (a7 (bC (j := 3) (ay rfl rfl) (by decide)) rfl (oga rfl rfl (a6 (a9 [(0, _), (2, _), (3, _), (4, _)] ⟨rfl, rfl, rfl, rfl, trivial⟩ (cH (a5 (a5 (aZ (ogm rfl rfl (a7 (bd rfl rfl) rfl (a6 (ci rfl (by decide) (bF rfl (a5 (aZ (ogm rfl rfl (a7 (ax 0 aE rfl dV (by decide) rfl rfl) rfl (a7 (ar 3 aF cU rfl rfl (by omega) (by omega)) rfl (ae (ck (v := z11) cU rfl rfl hb5 (by omega)) ?_)))))))))))))))))))))))))))
 rintro _ w6 ⟨hb6, k6, z12⟩
 replace hb1 := hb1.keep k6 (nm ne_b1_b2)
 replace hB := hB.new k6 (nw ge_b2)
 clear z12
 refine a6 (a5 (aZ (a7 (aa (cs' := iv .i64 16 (upd (upd (upd (upd (fun _ => 0) 0 z3) 1 z6) 2 z9) 3 z11)) bm bA rfl hb6 rfl rfl) rfl (ad (a8 (vs := [_]) rfl (df _ (ro (In.wk r1 rfl) (In.wk r3 rfl) (In.wk r5 rfl) (In.wk r6 rfl)) _)) rfl ?_))))
 rintro _ w7 ⟨hh1, rfl, E1, k7⟩
 obtain ⟨hB, hb1⟩ := bN k7 hB hb1
 refine ae (bh (vs := iv .i64 16 hh1) bA rfl rfl rfl ai hb1 rfl) ?_
 rintro _ w8 ⟨hb7, k8, z13⟩
 replace hB := hB.new k8 (nw ge_b1)
 clear z13
 refine a6 (a9 [(2, _)] ⟨rfl, trivial⟩ (ba hfin Tryz.results73 rfl (ak bm bA hb7 rfl)  ?_))
 exact ⟨hh1, rfl, qq hx h1 h2 h3 h4 h5 h6 E1, pI hx h1 h2 h3 h4 h5 h6 E1, hB⟩
theorem eN (w : World) : Rets Tryz.prog 73 [.int .i64 0] w (fun v w' => v = .agg (iv .i64 16 (fun _ => 0)).toArray ∧ Keep [] w w') :=
  (cx 0 (by decide) w).mono fun v w' ⟨r, e, _, h, k⟩ => ⟨by rw [e, rc h.1 h.2], k⟩
theorem br (f g : Nat → Int) (a b : Fp) (hf : RN f a) (hg : RN g b) (w : World) : Rets Tryz.prog 74 [.agg (iv .i64 16 f).toArray, .agg (iv .i64 16 g).toArray] w (fun v w' => ∃ r, v = .agg (iv .i64 16 r).toArray ∧ RN r (a * b) ∧ Keep [] w w') := by
  have hB : Keep [] w w := Keep.refl _ _
  refine ac Tryz.func74 rfl (by decide) Tryz.ntmps74 rfl (fun fin _ hfin => a5 (aZ (ad (bc (cs := iv .i64 16 f) rfl rfl) rfl ?_)))
  rintro _ w1 ⟨b1, rfl, eb1, hb1, k1, z1⟩
  replace hB := hB.trans k1
  clear eb1 z1
  refine ad (bc (cs := iv .i64 16 g) rfl rfl) rfl ?_
  rintro _ w2 ⟨b2, rfl, eb2, hb2, k2, z2⟩
  obtain ⟨hB, hb1⟩ := bN k2 hB hb1
  clear eb2 z2
  refine ad (aj bA) rfl ?_
  rintro _ w3 ⟨b3, rfl, eb3, hb3, k3, z3⟩
  have ge_b3 : w.heap.size ≤ b3 := by have := hB.size; omega
  obtain ⟨hB, hb1, hb2⟩ := ca k3 hB hb1 hb2
  clear eb3 z3
  replace hb3 : Bk w3 b3 65 (iv .i64 16 (fun _ => 0)) := by rw [iv, bE]; exact hb3
  refine a6 (a5 (aZ (ad (aj ty129) rfl ?_)))
  rintro _ w4 ⟨b4, rfl, eb4, hb4, k4, z4⟩
  have ge_b4 : w.heap.size ≤ b4 := by have := hB.size; omega
  have ne_b1_b4 : b1 ≠ b4 := by have := hb1.lt; omega
  have ne_b2_b4 : b2 ≠ b4 := by have := hb2.lt; omega
  have ne_b3_b4 : b3 ≠ b4 := by have := hb3.lt; omega
  obtain ⟨hB, hb1, hb2, hb3⟩ := dG k4 hB hb1 hb2 hb3
  clear eb4 z4
  replace hb4 : Bk w4 b4 129 (iv .i64 31 (fun _ => 0)) := by rw [iv, bE]; exact hb4
  refine a6 (a5 (a5 (aZ (oga rfl rfl (a6 (ab (bK (Γ := Nat × (Nat → Int)) (fun ⟨i, t⟩ => [(2, .pointer (some ⟨b1, 0, none⟩)), (3, .pointer (some ⟨b2, 0, none⟩)), (4, .pointer (some ⟨b3, 0, none⟩)), (5, .pointer (some ⟨b4, 0, none⟩)), (6, .int .i64 (i : Int))]) (fun ⟨i, t⟩ W => i ≤ 16 ∧ MulI f g t i 0 ∧ Bk W b1 65 (iv .i64 16 f) ∧ Bk W b2 65 (iv .i64 16 g) ∧ Bk W b3 65 (iv .i64 16 (fun _ => 0)) ∧ Bk W b4 129 (iv .i64 31 t) ∧ Keep [] w W) (fun ⟨i, t⟩ => 16 - i) ⟨0, _⟩ ⟨rfl, rfl, rfl, rfl, rfl, trivial⟩ (⟨by decide, nK _ _, hb1, hb2, hb3, hb4, hB⟩) ?_)))))))
  rintro ⟨i, t⟩ w5 ⟨hi, hI, hbx2, hbx3, hbx4, hbx5, hB⟩
  refine a9 [(2, .pointer (some ⟨b1, 0, none⟩)), (3, .pointer (some ⟨b2, 0, none⟩)), (4, .pointer (some ⟨b3, 0, none⟩)), (5, .pointer (some ⟨b4, 0, none⟩)), (6, .int .i64 (i : Int))] ⟨rfl, rfl, rfl, rfl, rfl, trivial⟩ (a5 (a5 (aZ (ogm rfl rfl (a7 (bd rfl rfl) rfl (a6 (bT rfl (fun hc1 => ?_) (fun hc1 => ?_))))))))
  · -- yes
    refine af (a5 (ab (a5 (aZ (oga rfl rfl (a6 (ab (bK (Γ := Nat × (Nat → Int)) (fun ⟨k, u⟩ => [(2, .pointer (some ⟨b1, 0, none⟩)), (3, .pointer (some ⟨b2, 0, none⟩)), (4, .pointer (some ⟨b3, 0, none⟩)), (5, .pointer (some ⟨b4, 0, none⟩)), (6, .int .i64 (i : Int)), (7, .int .i64 (k : Int))]) (fun ⟨k, u⟩ W => k ≤ 16 ∧ MulI f g u i k ∧ Bk W b1 65 (iv .i64 16 f) ∧ Bk W b2 65 (iv .i64 16 g) ∧ Bk W b3 65 (iv .i64 16 (fun _ => 0)) ∧ Bk W b4 129 (iv .i64 31 u) ∧ Keep [] w W) (fun ⟨k, u⟩ => 16 - k) ⟨0, t⟩ ⟨rfl, rfl, rfl, rfl, rfl, rfl, trivial⟩ (⟨by decide, hI, hbx2, hbx3, hbx4, hbx5, hB⟩) ?_))))))))
    rintro ⟨k, u⟩ w6 ⟨hk, hJ, hbx2, hbx3, hbx4, hbx5, hB⟩
    refine a9 [(2, .pointer (some ⟨b1, 0, none⟩)), (3, .pointer (some ⟨b2, 0, none⟩)), (4, .pointer (some ⟨b3, 0, none⟩)), (5, .pointer (some ⟨b4, 0, none⟩)), (6, .int .i64 (i : Int)), (7, .int .i64 (k : Int))] ⟨rfl, rfl, rfl, rfl, rfl, rfl, trivial⟩ (a5 (a5 (aZ (ogm rfl rfl (a7 (bd rfl rfl) rfl (a6 (bT rfl (fun hc2 => ?_) (fun hc2 => ?_))))))))
    · -- yes
      refine af (a5 (ab (cJ 18 mixed (by decide +kernel) (fun w7 k5 => ?_))))
      obtain ⟨hB, hbx2, hbx3, hbx4, hbx5⟩ := dw k5 hB hbx2 hbx3 hbx4 hbx5
      refine ao (bY rfl) rfl (ao (bY rfl) rfl (ao (bi rfl rfl (by omega)) rfl (ao (bY rfl) rfl (ao (bY rfl) rfl (ao (bi rfl rfl (by omega)) rfl (ao (ar (i + k) Tryz.underlying129 cU rfl rfl (by omega) (by omega)) rfl ?_))))))
      have hi16 : i < 16 := by omega
      have hk16 : k < 16 := by omega
      refine cM (e' := u (i + k)) (lo := (-18691697672192)) (hi := 18691697672192) (ah dc rfl hbx5 (bO (by omega))) (rfl) (gz hJ hi hk (by omega)) rfl (fun z5 h1 r1 => ao (bY rfl) rfl (ao (ax 0 aE rfl dV (by decide) rfl rfl) rfl (ao (ar i aF cU rfl rfl (by omega) (by omega)) rfl (cM (e' := f i) (lo := (-69631)) (hi := 69631) (ah dc rfl hbx2 (bO hi16)) (rfl) (In.wk (e9 hf i hi16) rfl) rfl (fun z6 h2 r2 => ao (bY rfl) rfl (ao (ax 0 aE rfl dV (by decide) rfl rfl) rfl (ao (ar k aF cU rfl rfl (by omega) (by omega)) rfl (cM (e' := g k) (lo := (-69631)) (hi := 69631) (ah dc rfl hbx3 (bO hk16)) (rfl) (In.wk (e9 hg k hk16) rfl) rfl (fun z7 h3 r3 => ?_)))))))))
      refine cM (e' := z6 * z7) (lo := (-4848476161)) (hi := 4848476161) (dZ rfl rfl) (ap (oJ r2 r3) rfl) (In.wk (oJ r2 r3) rfl) rfl (fun z8 h4 r4 => cM (e' := z5 + z8) (lo := (-18696546148353)) (hi := 18696546148353) (ay rfl rfl) (ap (aw r1 r4) rfl) (In.wk (aw r1 r4) rfl) rfl (fun z9 h5 r5 => cV (a7 (ar (i + k) Tryz.underlying129 cU rfl rfl (by omega) (by omega)) rfl (ae (ck (v := z9) cU rfl rfl hbx5 (by omega)) ?_))))
      rintro _ w8 ⟨hb5, k6, z10⟩
      replace hbx2 := hbx2.keep k6 (nm ne_b1_b4)
      replace hbx3 := hbx3.keep k6 (nm ne_b2_b4)
      replace hbx4 := hbx4.keep k6 (nm ne_b3_b4)
      replace hB := hB.new k6 (nw ge_b4)
      clear z10
      refine a6 (a9 [(2, _), (3, _), (4, _), (5, _), (6, _), (7, _)] ⟨rfl, rfl, rfl, rfl, rfl, rfl, trivial⟩ (bZ (aZ (ogm rfl rfl (a7 (bi rfl rfl (by omega)) rfl (oga rfl rfl (a6 (bM (Γ := Nat × (Nat → Int)) ⟨k + 1, _⟩ ⟨rfl, rfl, rfl, rfl, rfl, rfl, trivial⟩ (by (try dsimp only); omega) (⟨by omega, pa (p := z8) hf hg hJ hi16 hk16 (by have a := h2; have b := h3; have c := h4; unfold Eqn at *; rw [c, a, b]) (by have a := h1; have b := h5; unfold Eqn at *; rw [b, a]), hbx2, hbx3, hbx4, hb5, hB⟩)))))))))
    · -- no
      refine bF rfl (bZ (aZ (ogm rfl rfl (a7 (bi rfl rfl (by omega)) rfl (oga rfl rfl (a6 (bM (Γ := Nat × (Nat → Int)) ⟨i + 1, u⟩ ⟨rfl, rfl, rfl, rfl, rfl, trivial⟩ (by (try dsimp only); omega) (⟨by omega, pc hJ (by omega), hbx2, hbx3, hbx4, hbx5, hB⟩))))))))
  · -- no
    refine bF rfl (a5 (aZ (ad (aj bA) rfl ?_)))
    rintro _ w9 ⟨b5, rfl, eb5, hb6, k7, z11⟩
    have ge_b5 : w.heap.size ≤ b5 := by have := hB.size; omega
    have ne_b3_b5 : b3 ≠ b5 := by have := hbx4.lt; omega
    have ne_b4_b5 : b4 ≠ b5 := by have := hbx5.lt; omega
    obtain ⟨hB, hbx2, hbx3, hbx4, hbx5⟩ := dw k7 hB hbx2 hbx3 hbx4 hbx5
    clear eb5 z11
    replace hb6 : Bk w9 b5 65 (iv .i64 16 (fun _ => 0)) := by rw [iv, bE]; exact hb6
    refine a6 (a5 (a5 (aZ (oga rfl rfl (a6 (ab (bK (Γ := Nat × (Nat → Int)) (fun ⟨n, h⟩ => [(4, .pointer (some ⟨b3, 0, none⟩)), (5, .pointer (some ⟨b4, 0, none⟩)), (8, .pointer (some ⟨b5, 0, none⟩)), (9, .int .i64 (n : Int))]) (fun ⟨n, h⟩ W => n ≤ 16 ∧ Part (eg t) (fun _ => 0) h n ∧ Bk W b3 65 (iv .i64 16 (fun _ => 0)) ∧ Bk W b4 129 (iv .i64 31 t) ∧ Bk W b5 65 (iv .i64 16 h) ∧ Keep [] w W) (fun ⟨n, h⟩ => 16 - n) ⟨0, _⟩ ⟨rfl, rfl, rfl, rfl, trivial⟩ (⟨by decide, eq _ _, hbx4, hbx5, hb6, hB⟩) ?_)))))))
    rintro ⟨n, h⟩ w10 ⟨hn, hP, hbx4, hbx5, hbx8, hB⟩
    refine a9 [(4, .pointer (some ⟨b3, 0, none⟩)), (5, .pointer (some ⟨b4, 0, none⟩)), (8, .pointer (some ⟨b5, 0, none⟩)), (9, .int .i64 (n : Int))] ⟨rfl, rfl, rfl, rfl, trivial⟩ ?_
    have hM := rQ hI (by omega)
    refine a5 (a5 (aZ (ogm rfl rfl (a7 (bd rfl rfl) rfl (a6 (bT rfl (fun hc3 => ?_) (fun hc3 => ?_)))))))
    · -- yes
      refine af (a5 (ab (a5 (aZ (ogm rfl rfl (ogm rfl rfl (a7 (ar n Tryz.underlying129 cU rfl rfl (by omega) (by omega)) rfl ?_)))))))
      have hn16 : n < 16 := by omega
      refine an (e' := t n) (lo := (-18691697672192)) (hi := 18691697672192) (ah dc rfl hbx5 (bO (by omega))) (rfl) (gz hM (by decide) (by decide) (by omega)) rfl (fun z12 h6 r6 => a7 (ax 0 aE rfl dV (by decide) rfl rfl) rfl (a7 (ar n aF cU rfl rfl (by omega) (by omega)) rfl (ae (ck (v := z12) cU rfl rfl hbx8 (by omega)) ?_)))
      rintro _ w11 ⟨hb7, k8, z13⟩
      replace hbx4 := hbx4.keep k8 (nm ne_b3_b5)
      replace hbx5 := hbx5.keep k8 (nm ne_b4_b5)
      replace hB := hB.new k8 (nw ge_b5)
      clear z13
      refine a6 (a5 (aZ (ogm rfl rfl (a7 (bd rfl rfl) rfl (a6 (bT rfl (fun hc4 => ?_) (fun hc4 => ?_)))))))
      · -- yes
        refine bW 12 [0, 1, 2, 3, 4, 5, 6, 7, 8, 9, 10, 11] [] [] [] mixed [(9, _), (8, _), (5, _), (4, _)] ⟨rfl, rfl, rfl, rfl, trivial⟩ (by decide +kernel) (by decide) (by decide) ?_ (fun x hx => by cases hx) rfl (fun w12 k9 => ?_)
        · intro q hq; cases hq
        obtain ⟨hB, hbx4, hbx5, hb7⟩ := dG k9 hB hbx4 hbx5 hb7
        refine bu 9 rfl rfl rfl rfl rfl (bu 9 rfl rfl rfl rfl rfl (al 8 rfl rfl rfl rfl (fun W' kk => ax 0 aE rfl dV (by decide) rfl rfl) (cn 50 51 rfl rfl rfl rfl rfl (fun W' kk => ar n aF cU rfl rfl (by omega) (by omega)) ?_)))
        have hn15 : n < 15 := by omega
        refine dg (e' := z12) (lo := (-18691697672192)) (hi := 18691697672192) [(52, _)] rfl rfl ⟨rfl, trivial⟩ rfl (fun W' kk => ah dc rfl (Bk.s8 hb7 kk) (bO hn16)) (bj _ _ _) (r6) (fun z14 h7 r7 => bu 9 rfl rfl rfl rfl rfl (al 54 rfl rfl rfl rfl (fun W' kk => bi rfl rfl (by omega)) (cn 5 55 rfl rfl rfl rfl rfl (fun W' kk => ar (n + 16) Tryz.underlying129 cU rfl rfl (by omega) (by omega)) (dg (e' := t (n + 16)) (lo := (-18691697672192)) (hi := 18691697672192) [(56, _)] rfl rfl ⟨rfl, trivial⟩ rfl (fun W' kk => ah dc rfl (Bk.s8 hbx5 kk) (bO (by omega))) (rfl) (gz hM (by decide) (by decide) (by omega)) (fun z15 h8 r8 => dg (e' := 38 * z15) (lo := (-710284511543296)) (hi := 710284511543296) [(57, _)] rfl rfl ⟨rfl, trivial⟩ rfl (fun W' kk => dZ rfl rfl) (ap (dF r8 (by decide)) rfl) (In.wk (dF r8 (by decide)) rfl) (fun z16 h9 r9 => dg (e' := z14 + z16) (lo := (-728976209215488)) (hi := 728976209215488) [(53, _), (58, _)] rfl rfl ⟨rfl, rfl, trivial⟩ rfl (fun W' kk => ay rfl rfl) (ap (aw r7 r9) rfl) (In.wk (aw r7 r9) rfl) (fun z17 h10 r10 => al 8 rfl rfl rfl rfl (fun W' kk => ax 0 aE rfl dV (by decide) rfl rfl) (cC (fun w13 k10 => ?_)))))))))
        obtain ⟨hB, hbx4, hbx5, hb7⟩ := dG k10 hB hbx4 hbx5 hb7
        refine bX (a7 (ar n aF cU rfl rfl (by omega) (by omega)) rfl (ae (ck (v := z17) cU rfl rfl hb7 (by omega)) ?_))
        rintro _ w14 ⟨hb8, k11, z18⟩
        replace hbx4 := hbx4.keep k11 (nm ne_b3_b5)
        replace hbx5 := hbx5.keep k11 (nm ne_b4_b5)
        replace hB := hB.new k11 (nw ge_b5)
        clear z18
        refine a6 (a9 [(9, _), (8, _), (5, _), (4, _)] ⟨rfl, rfl, rfl, rfl, trivial⟩ (bZ (aZ (ogm rfl rfl (a7 (bi rfl rfl (by omega)) rfl (oga rfl rfl (a6 (bM (Γ := Nat × (Nat → Int)) ⟨n + 1, _⟩ ⟨rfl, rfl, rfl, rfl, trivial⟩ (by (try dsimp only); omega) (⟨by omega, nF hP (by have a := h6; have b := h7; have c := h8; have d := h9; have e := h10; unfold Eqn at *; rw [e, d, c, b, a, po _ hn15]), hbx4, hbx5, hb8, hB⟩)))))))))
      · -- no
        refine af (bZ (aZ (ogm rfl rfl (a7 (bi rfl rfl (by omega)) rfl (oga rfl rfl (a6 (a9 [(4, _), (5, _), (8, _), (9, _)] ⟨rfl, rfl, rfl, rfl, trivial⟩ (bM (Γ := Nat × (Nat → Int)) ⟨n + 1, _⟩ ⟨rfl, rfl, rfl, rfl, trivial⟩ (by (try dsimp only); omega) (⟨by omega, fL hP (by have a := h6; unfold Eqn at a; rw [a, pp _ (by assumption)]), hbx4, hbx5, hb7, hB⟩)))))))))
    · -- no
      refine bF rfl (a5 (aZ (a7 (aa (cs' := iv .i64 16 h) bm bA rfl hbx8 rfl rfl) rfl (ad (a8 (vs := [_]) rfl (df _ (rp hM (fun j hj => hP.1 j (by omega))) _)) rfl ?_))))
      rintro _ w15 ⟨hh1, rfl, E1, k12⟩
      obtain ⟨hB, hbx4⟩ := bN k12 hB hbx4
      refine ad (a8 (vs := [_]) rfl (df _ (oW (iY hM (fun j hj => hP.1 j (by omega))) E1).2 _)) rfl ?_
      rintro _ w16 ⟨hh2, rfl, E2, k13⟩
      obtain ⟨hB, hbx4⟩ := bN k13 hB hbx4
      refine ae (bh (vs := iv .i64 16 hh2) bA rfl rfl rfl ai hbx4 rfl) ?_
      rintro _ w17 ⟨hb9, k14, z19⟩
      replace hB := hB.new k14 (nw ge_b3)
      clear z19
      refine a6 (ba hfin Tryz.results74 rfl (ak bm bA hb9 rfl)  ?_)
      exact ⟨hh2, rfl, rn_mul hf hg hM (fun j hj => hP.1 j (by omega)) E1 E2, hB⟩
theorem sO {f g h : Nat → Int} {a : Fp} (hf : RN f a) (h1 : Car f g) (h2 : Car g h) : Sml h := by
 have b := i7 hf
 have c1 := fh h1 b.1 b.2
 have b1 := jc c1
 exact oY (fh h2 (by omega) (by omega))
theorem eG (f : Nat → Int) (a : Fp) (hf : RN f a) (w : World) : Rets Tryz.prog 72 [.agg (iv .i64 16 f).toArray] w (fun v w' => OwnB w' w.heap.size v (fpB a) ∧ Keep [] w w') := by
  have hB : Keep [] w w := Keep.refl _ _
  refine ac Tryz.func72 rfl (by decide) Tryz.ntmps72 rfl (fun fin _ hfin => a5 (aZ (ad (bc (cs := iv .i64 16 f) rfl rfl) rfl ?_)))
  rintro _ w1 ⟨b1, rfl, eb1, hb1, k1, z1⟩
  have ge_b1 : w.heap.size ≤ b1 := by have := hB.size; omega
  replace hB := hB.trans k1
  clear eb1 z1
  refine oga rfl rfl (a6 (a5 (aZ (a7 (aa (cs' := iv .i64 16 f) bm bA rfl hb1 rfl rfl) rfl (ad (a8 (vs := [_]) rfl (df _ (rn_sm hf) _)) rfl ?_)))))
  rintro _ w2 ⟨hh1, rfl, E1, k2⟩
  obtain ⟨hB, hb1⟩ := bN k2 hB hb1
  refine ad (a8 (vs := [_]) rfl (df _ (oY (fh E1 (i7 hf).1 (i7 hf).2)) _)) rfl ?_
  rintro _ w3 ⟨hh2, rfl, E2, k3⟩
  obtain ⟨hB, hb1⟩ := bN k3 hB hb1
  refine ad (a8 (vs := [_]) rfl (df _ (sO hf E1 E2) _)) rfl ?_
  rintro _ w4 ⟨hh3, rfl, E3, k4⟩
  obtain ⟨hB, hb1⟩ := bN k4 hB hb1
  refine ae (bh (vs := iv .i64 16 hh3) bA rfl rfl rfl ai hb1 rfl) ?_
  rintro _ w5 ⟨hb2, k5, z2⟩
  replace hB := hB.new k5 (nw ge_b1)
  clear z2
  refine a6 (a5 (a5 (aZ (oga rfl rfl (a6 (ab ?_))))))
  obtain ⟨_, _, hcan, hval⟩ := sN hf E1 E2 E3
  refine bK (Γ := Nat × (Nat → Int)) (fun ⟨k, n⟩ => [(1, .pointer (some ⟨b1, 0, none⟩)), (3, .int .i64 (k : Int))]) (fun ⟨k, n⟩ W => BytI a n k ∧ Bk W b1 65 (iv .i64 16 n) ∧ Keep [] w W) (fun ⟨k, n⟩ => 2 - k) ⟨0, _⟩ ⟨rfl, rfl, trivial⟩ (⟨n6 hcan hval, hb2, hB⟩) ?_
  rintro ⟨k, n⟩ w6 ⟨hI, hbx1, hB⟩
  refine a9 [(1, .pointer (some ⟨b1, 0, none⟩)), (3, .int .i64 (k : Int))] ⟨rfl, rfl, trivial⟩ ?_
  have hk2 := hI.1
  refine a5 (a5 (aZ (ogm rfl rfl (a7 (bd rfl rfl) rfl (a6 (bT rfl (fun hc1 => ?_) (fun hc1 => ?_)))))))
  · -- yes
    refine af (a5 (ab (a5 (aZ (a7 (aa (cs' := iv .i64 16 n) bm bA rfl hbx1 rfl rfl) rfl (ad (aj bA) rfl ?_))))))
    rintro _ w7 ⟨b2, rfl, eb2, hb3, k6, z3⟩
    have ge_b2 : w.heap.size ≤ b2 := by have := hB.size; omega
    have ne_b1_b2 : b1 ≠ b2 := by have := hbx1.lt; omega
    obtain ⟨hB, hbx1⟩ := bN k6 hB hbx1
    clear eb2 z3
    replace hb3 : Bk w7 b2 65 (iv .i64 16 (fun _ => 0)) := by rw [iv, bE]; exact hb3
    refine ae (bh (vs := iv .i64 16 n) bA rfl rfl rfl ai hb3 rfl) ?_
    rintro _ w8 ⟨hb4, k7, z4⟩
    replace hbx1 := hbx1.keep k7 (nm ne_b1_b2)
    replace hB := hB.new k7 (nw ge_b2)
    clear z4
    refine a6 (a5 (aZ (a7 (ax 0 aE rfl dV (by decide) rfl rfl) rfl (a7 (ar 0 aF cU rfl rfl (by omega) (by omega)) rfl (an (e' := n 0) (lo := 0) (hi := 65535) (ah dc rfl hb4 (bO (by decide))) (rfl) (hI.2.1 0 (by decide)) rfl (fun z5 h1 r1 => an (e' := z5 - 65517) (lo := (-65517)) (hi := 18) (cY rfl rfl) (ap (cW r1 (cr 65517)) rfl) (In.wk (cW r1 (cr 65517)) rfl) rfl (fun z6 h2 r2 => a7 (ax 0 aE rfl dV (by decide) rfl rfl) rfl (a7 (ar 0 aF cU rfl rfl (by omega) (by omega)) rfl ?_))))))))
    refine ae (ck (v := z6) cU rfl rfl hb4 (by omega)) ?_
    rintro _ w9 ⟨hb5, k8, z7⟩
    replace hbx1 := hbx1.keep k8 (nm ne_b1_b2)
    replace hB := hB.new k8 (nw ge_b2)
    clear z7
    refine a6 (a5 (a5 (aZ (oga rfl rfl (a6 (ab (bK (Γ := Nat × (Nat → Int)) (fun ⟨i, m⟩ => [(1, .pointer (some ⟨b1, 0, none⟩)), (4, .pointer (some ⟨b2, 0, none⟩)), (3, .int .i64 (k : Int)), (5, .int .i64 (i : Int))]) (fun ⟨i, m⟩ W => i ≤ 16 ∧ SubI n m i ∧ Bk W b1 65 (iv .i64 16 n) ∧ Bk W b2 65 (iv .i64 16 m) ∧ Keep [] w W) (fun ⟨i, m⟩ => 16 - i) ⟨1, _⟩ ⟨rfl, rfl, rfl, rfl, trivial⟩ (⟨by decide, pC hI.2.1 h1 h2, hbx1, hb5, hB⟩) ?_)))))))
    rintro ⟨i, m⟩ w10 ⟨hi, hS, hbx1, hbx4, hB⟩
    refine a9 [(1, .pointer (some ⟨b1, 0, none⟩)), (4, .pointer (some ⟨b2, 0, none⟩)), (3, .int .i64 (k : Int)), (5, .int .i64 (i : Int))] ⟨rfl, rfl, rfl, rfl, trivial⟩ ?_
    have hi1 := hS.1
    refine a5 (a5 (aZ (ogm rfl rfl (a7 (bd rfl rfl) rfl (a6 (bT rfl (fun hc2 => ?_) (fun hc2 => ?_)))))))
    · -- yes
      refine af (a5 (ab (a5 (aZ (oga rfl rfl (a6 (a5 (a5 ?_))))))))
      refine aZ (ogm rfl rfl (a7 (fS rfl rfl) rfl (a6 (bT rfl (fun hc3 => ?_) (fun hc3 => ?_)))))
      · -- yes
        refine aZ (oga rfl rfl (a6 (a5 (aZ (oga rfl rfl (a6 (a5 (a5 ?_))))))))
        refine aZ (ogm rfl rfl (a7 (cj rfl rfl (by omega)) rfl (a7 (ax 0 aE rfl dV (by decide) rfl rfl) rfl (a7 (ar (i - 1) aF cU rfl rfl (by omega) (by omega)) rfl ?_))))
        have hi16 : i < 16 := by omega
        refine an (e' := m (i - 1)) (lo := (-65536)) (hi := 65535) (ah dc rfl hbx4 (bO (by omega))) (rfl) (hS.2.2.1) rfl (fun z8 h3 r3 => a7 (bd rfl rfl) rfl (a6 (bT rfl (fun hc4 => ?_) (fun hc4 => ?_))))
        · -- yes
          refine a5 (aZ (oga rfl rfl (a6 (a9 [(1, _), (4, _), (3, _), (5, _), (6, _), (7, _)] ⟨rfl, rfl, rfl, rfl, rfl, rfl, trivial⟩ (aZ (ogm rfl rfl (a7 (cj rfl rfl (by omega)) rfl (ogm rfl rfl ?_))))))))
          refine a7 (cj rfl rfl (by omega)) rfl (a7 (ax 0 aE rfl dV (by decide) rfl rfl) rfl (a7 (ar (i - 1) aF cU rfl rfl (by omega) (by omega)) rfl (an (e' := m (i - 1)) (lo := (-65536)) (hi := 65535) (ah dc rfl hbx4 (bO (by omega))) (rfl) (hS.2.2.1) rfl (fun z9 h4 r4 => an (e' := z9 + 65536) (lo := 0) (hi := 131071) (ay rfl rfl) (ap (aw r4 (cr 65536)) rfl) (In.wk (aw r4 (cr 65536)) rfl) rfl (fun z10 h5 r5 => a7 (ax 0 aE rfl dV (by decide) rfl rfl) rfl (a7 (ar (i - 1) aF cU rfl rfl (by omega) (by omega)) rfl (ae (ck (v := z10) cU rfl rfl hbx4 (by omega)) ?_)))))))
          rintro _ w11 ⟨hb6, k9, z11⟩
          replace hbx1 := hbx1.keep k9 (nm ne_b1_b2)
          replace hB := hB.new k9 (nw ge_b2)
          clear z11
          refine a6 (a9 [(1, _), (4, _), (3, _), (5, _), (6, _), (7, _)] ⟨rfl, rfl, rfl, rfl, rfl, rfl, trivial⟩ (aZ (ogm rfl rfl (ogm rfl rfl (a7 (ax 0 aE rfl dV (by decide) rfl rfl) rfl (a7 (ar i aF cU rfl rfl (by omega) (by omega)) rfl (an (e' := m i) (lo := 0) (hi := 65535) (ah dc rfl hb6 (bO hi16)) (av _ _ (by omega)) ((by rw [hS.2.2.2.1 i (Nat.le_refl _)]; exact hI.2.1 i hi16)) rfl (fun z12 h6 r6 => ogm rfl rfl ?_))))))))
          refine an (e' := z12 - 32767) (lo := (-32767)) (hi := 32768) (cY rfl rfl) (ap (cW r6 (cr 32767)) rfl) (In.wk (cW r6 (cr 32767)) rfl) rfl (fun z13 h7 r7 => ogm rfl rfl (an (e' := z13 - 1) (lo := (-32768)) (hi := 32767) (cY rfl rfl) (ap (cW r7 (cr 1)) rfl) (In.wk (cW r7 (cr 1)) rfl) rfl (fun z14 h8 r8 => a7 (ax 0 aE rfl dV (by decide) rfl rfl) rfl (a7 (ar i aF cU rfl rfl (by omega) (by omega)) rfl (ae (ck (v := z14) cU rfl rfl hb6 (by omega)) ?_)))))
          rintro _ w12 ⟨hb7, k10, z15⟩
          replace hbx1 := hbx1.keep k10 (nm ne_b1_b2)
          replace hB := hB.new k10 (nw ge_b2)
          clear z15
          refine a6 (a9 [(1, _), (4, _), (3, _), (5, _)] ⟨rfl, rfl, rfl, rfl, trivial⟩ (bZ (aZ (ogm rfl rfl (a7 (bi rfl rfl (by omega)) rfl (oga rfl rfl (a6 (bM (Γ := Nat × (Nat → Int)) ⟨i + 1, _⟩ ⟨rfl, rfl, rfl, rfl, trivial⟩ (by (try dsimp only); omega) (⟨by omega, nk hI.2.1 hS hi16 h3 hc4 (by have a := h5; have b := h4; have c := h3; unfold Eqn at *; rw [a, b, ← c]) h6 (by have a := h7; rw [s7 hc3]; exact a) h8, hbx1, hb7, hB⟩)))))))))
        · -- no
          refine af (aZ (ogm rfl rfl (ogm rfl rfl (a7 (ax 0 aE rfl dV (by decide) rfl rfl) rfl (a7 (ar i aF cU rfl rfl (by omega) (by omega)) rfl (an (e' := m i) (lo := 0) (hi := 65535) (ah dc rfl hbx4 (bO hi16)) (rfl) ((by rw [hS.2.2.2.1 i (Nat.le_refl _)]; exact hI.2.1 i hi16)) rfl (fun z16 h9 r9 => ogm rfl rfl (an (e' := z16 - 32767) (lo := (-32767)) (hi := 32768) (cY rfl rfl) (ap (cW r9 (cr 32767)) rfl) (In.wk (cW r9 (cr 32767)) rfl) rfl (fun z17 h10 r10 => ?_)))))))))
          refine ogm rfl rfl (an (e' := z17 - 0) (lo := (-32767)) (hi := 32768) (cY rfl rfl) (ap (cW r10 (cr 0)) rfl) (In.wk (cW r10 (cr 0)) rfl) rfl (fun z18 h11 r11 => a7 (ax 0 aE rfl dV (by decide) rfl rfl) rfl (a7 (ar i aF cU rfl rfl (by omega) (by omega)) rfl (ae (ck (v := z18) cU rfl rfl hbx4 (by omega)) ?_))))
          rintro _ w13 ⟨hb8, k11, z19⟩
          replace hbx1 := hbx1.keep k11 (nm ne_b1_b2)
          replace hB := hB.new k11 (nw ge_b2)
          clear z19
          refine a6 (a9 [(1, _), (4, _), (3, _), (5, _)] ⟨rfl, rfl, rfl, rfl, trivial⟩ (bZ (aZ (ogm rfl rfl (a7 (bi rfl rfl (by omega)) rfl (oga rfl rfl (a6 (bM (Γ := Nat × (Nat → Int)) ⟨i + 1, _⟩ ⟨rfl, rfl, rfl, rfl, trivial⟩ (by (try dsimp only); omega) (⟨by omega, q8 hI.2.1 hS hi16 h3 hc4 h9 (by have a := h10; rw [s7 hc3]; exact a) h11, hbx1, hb8, hB⟩)))))))))
      · -- no
        refine af (a5 (aZ (oga rfl rfl (a6 (a5 (a5 (aZ (ogm rfl rfl ?_))))))))
        refine a7 (cj rfl rfl (by omega)) rfl (a7 (ax 0 aE rfl dV (by decide) rfl rfl) rfl (a7 (ar (i - 1) aF cU rfl rfl (by omega) (by omega)) rfl ?_))
        have hi16 : i < 16 := by omega
        refine an (e' := m (i - 1)) (lo := (-65536)) (hi := 65535) (ah dc rfl hbx4 (bO (by omega))) (rfl) (hS.2.2.1) rfl (fun z20 h12 r12 => a7 (bd rfl rfl) rfl (a6 (bT rfl (fun hc5 => ?_) (fun hc5 => ?_))))
        · -- yes
          refine a5 (aZ (oga rfl rfl (a6 (a9 [(1, _), (4, _), (3, _), (5, _), (6, _), (7, _)] ⟨rfl, rfl, rfl, rfl, rfl, rfl, trivial⟩ (aZ (ogm rfl rfl (a7 (cj rfl rfl (by omega)) rfl (ogm rfl rfl ?_))))))))
          refine a7 (cj rfl rfl (by omega)) rfl (a7 (ax 0 aE rfl dV (by decide) rfl rfl) rfl (a7 (ar (i - 1) aF cU rfl rfl (by omega) (by omega)) rfl (an (e' := m (i - 1)) (lo := (-65536)) (hi := 65535) (ah dc rfl hbx4 (bO (by omega))) (rfl) (hS.2.2.1) rfl (fun z21 h13 r13 => an (e' := z21 + 65536) (lo := 0) (hi := 131071) (ay rfl rfl) (ap (aw r13 (cr 65536)) rfl) (In.wk (aw r13 (cr 65536)) rfl) rfl (fun z22 h14 r14 => a7 (ax 0 aE rfl dV (by decide) rfl rfl) rfl (a7 (ar (i - 1) aF cU rfl rfl (by omega) (by omega)) rfl (ae (ck (v := z22) cU rfl rfl hbx4 (by omega)) ?_)))))))
          rintro _ w14 ⟨hb9, k12, z23⟩
          replace hbx1 := hbx1.keep k12 (nm ne_b1_b2)
          replace hB := hB.new k12 (nw ge_b2)
          clear z23
          refine a6 (a9 [(1, _), (4, _), (3, _), (5, _), (6, _), (7, _)] ⟨rfl, rfl, rfl, rfl, rfl, rfl, trivial⟩ (aZ (ogm rfl rfl (ogm rfl rfl (a7 (ax 0 aE rfl dV (by decide) rfl rfl) rfl (a7 (ar i aF cU rfl rfl (by omega) (by omega)) rfl (an (e' := m i) (lo := 0) (hi := 65535) (ah dc rfl hb9 (bO hi16)) (av _ _ (by omega)) ((by rw [hS.2.2.2.1 i (Nat.le_refl _)]; exact hI.2.1 i hi16)) rfl (fun z24 h15 r15 => ogm rfl rfl ?_))))))))
          refine an (e' := z24 - 65535) (lo := (-65535)) (hi := 0) (cY rfl rfl) (ap (cW r15 (cr 65535)) rfl) (In.wk (cW r15 (cr 65535)) rfl) rfl (fun z25 h16 r16 => ogm rfl rfl (an (e' := z25 - 1) (lo := (-65536)) (hi := (-1)) (cY rfl rfl) (ap (cW r16 (cr 1)) rfl) (In.wk (cW r16 (cr 1)) rfl) rfl (fun z26 h17 r17 => a7 (ax 0 aE rfl dV (by decide) rfl rfl) rfl (a7 (ar i aF cU rfl rfl (by omega) (by omega)) rfl (ae (ck (v := z26) cU rfl rfl hb9 (by omega)) ?_)))))
          rintro _ w15 ⟨hb10, k13, z27⟩
          replace hbx1 := hbx1.keep k13 (nm ne_b1_b2)
          replace hB := hB.new k13 (nw ge_b2)
          clear z27
          refine a6 (a9 [(1, _), (4, _), (3, _), (5, _)] ⟨rfl, rfl, rfl, rfl, trivial⟩ (bZ (aZ (ogm rfl rfl (a7 (bi rfl rfl (by omega)) rfl (oga rfl rfl (a6 (bM (Γ := Nat × (Nat → Int)) ⟨i + 1, _⟩ ⟨rfl, rfl, rfl, rfl, trivial⟩ (by (try dsimp only); omega) (⟨by omega, nk hI.2.1 hS hi16 h12 hc5 (by have a := h14; have b := h13; have c := h12; unfold Eqn at *; rw [a, b, ← c]) h15 (by have a := h16; rw [s6 hS.1 hc3]; exact a) h17, hbx1, hb10, hB⟩)))))))))
        · -- no
          refine af (aZ (ogm rfl rfl (ogm rfl rfl (a7 (ax 0 aE rfl dV (by decide) rfl rfl) rfl (a7 (ar i aF cU rfl rfl (by omega) (by omega)) rfl (an (e' := m i) (lo := 0) (hi := 65535) (ah dc rfl hbx4 (bO hi16)) (rfl) ((by rw [hS.2.2.2.1 i (Nat.le_refl _)]; exact hI.2.1 i hi16)) rfl (fun z28 h18 r18 => ogm rfl rfl (an (e' := z28 - 65535) (lo := (-65535)) (hi := 0) (cY rfl rfl) (ap (cW r18 (cr 65535)) rfl) (In.wk (cW r18 (cr 65535)) rfl) rfl (fun z29 h19 r19 => ?_)))))))))
          refine ogm rfl rfl (an (e' := z29 - 0) (lo := (-65535)) (hi := 0) (cY rfl rfl) (ap (cW r19 (cr 0)) rfl) (In.wk (cW r19 (cr 0)) rfl) rfl (fun z30 h20 r20 => a7 (ax 0 aE rfl dV (by decide) rfl rfl) rfl (a7 (ar i aF cU rfl rfl (by omega) (by omega)) rfl (ae (ck (v := z30) cU rfl rfl hbx4 (by omega)) ?_))))
          rintro _ w16 ⟨hb11, k14, z31⟩
          replace hbx1 := hbx1.keep k14 (nm ne_b1_b2)
          replace hB := hB.new k14 (nw ge_b2)
          clear z31
          refine a6 (a9 [(1, _), (4, _), (3, _), (5, _)] ⟨rfl, rfl, rfl, rfl, trivial⟩ (bZ (aZ (ogm rfl rfl (a7 (bi rfl rfl (by omega)) rfl (oga rfl rfl (a6 (bM (Γ := Nat × (Nat → Int)) ⟨i + 1, _⟩ ⟨rfl, rfl, rfl, rfl, trivial⟩ (by (try dsimp only); omega) (⟨by omega, q8 hI.2.1 hS hi16 h12 hc5 h18 (by have a := h19; rw [s6 hS.1 hc3]; exact a) h20, hbx1, hb11, hB⟩)))))))))
    · -- no
      refine bF rfl (a5 (aZ (a7 (ax 0 aE rfl dV (by decide) rfl rfl) rfl (a7 (ar 15 aF cU rfl rfl (by omega) (by omega)) rfl (an (e' := m 15) (lo := (-65536)) (hi := 65535) (ah dc rfl hbx4 (bO (by decide))) (rfl) ((by have h := hS.2.2.1; rw [show i = 16 by omega] at h; exact h)) rfl (fun z32 h21 r21 => a7 (ii rfl rfl) rfl (a6 (bT rfl (fun hc6 => ?_) (fun hc6 => ?_)))))))))
      · -- yes
        refine aZ (a7 (aa (cs' := iv .i64 16 m) bm bA rfl hbx4 rfl rfl) rfl (ae (bh (vs := iv .i64 16 m) bA rfl rfl rfl ai hbx1 rfl) ?_))
        rintro _ w17 ⟨hb12, k15, z33⟩
        replace hbx4 := hbx4.keep k15 (nm (Ne.symm ne_b1_b2))
        replace hB := hB.new k15 (nw ge_b1)
        clear z33
        refine a6 (bZ (aZ (ogm rfl rfl (a7 (bi rfl rfl (by omega)) rfl (oga rfl rfl (a6 (a9 [(1, _), (3, _)] ⟨rfl, rfl, trivial⟩ (bM (Γ := Nat × (Nat → Int)) ⟨k + 1, _⟩ ⟨rfl, rfl, trivial⟩ (by (try dsimp only); omega) (⟨sP hI (by omega) hS (by omega) h21 (by assumption), hb12, hB⟩)))))))))
      · -- no
        refine af (bZ (aZ (ogm rfl rfl (a7 (bi rfl rfl (by omega)) rfl (oga rfl rfl (a6 (a9 [(1, _), (3, _)] ⟨rfl, rfl, trivial⟩ (bM (Γ := Nat × (Nat → Int)) ⟨k + 1, _⟩ ⟨rfl, rfl, trivial⟩ (by (try dsimp only); omega) (⟨bytI_no hI (by omega) hS (by omega) h21 (by assumption), hbx1, hB⟩)))))))))
  · -- no
    refine bF rfl (a5 (aZ (oga rfl rfl (a6 (a5 (a5 (aZ (oga rfl rfl ?_))))))))
    refine a6 (ab (bK (Γ := Nat × Value) (fun ⟨i, v⟩ => [(1, .pointer (some ⟨b1, 0, none⟩)), (8, v), (9, .int .i64 (i : Int))]) (fun ⟨i, v⟩ W => i ≤ 16 ∧ Own W w.heap.size 5 1 v (2 * i) (bv (limbB n i)) ∧ (∀ x, x ∈ vblk v → x ≠ b1) ∧ Bk W b1 65 (iv .i64 16 n) ∧ Keep [] w W) (fun ⟨i, v⟩ => 16 - i) ⟨0, .slice none 0 0⟩ ⟨rfl, rfl, rfl, trivial⟩ (⟨by decide, dM _ _ _ _, (fun x hx => by cases hx), hbx1, hB⟩) ?_))
    rintro ⟨i, v⟩ w18 ⟨hi, ox, hsep, hbx1, hB⟩
    refine a9 [(1, .pointer (some ⟨b1, 0, none⟩)), (8, v), (9, .int .i64 (i : Int))] ⟨rfl, rfl, rfl, trivial⟩ (a5 (a5 (aZ (ogm rfl rfl (a7 (bd rfl rfl) rfl (a6 (bT rfl (fun hc7 => ?_) (fun hc7 => ?_))))))))
    · -- yes
      refine af (a5 (ab (bW 13 [0, 1, 2, 3, 4, 5, 6, 7, 8, 9, 10, 11, 12] [12] [] [] mixed [(8, _), (9, _), (1, _)] ⟨rfl, rfl, rfl, trivial⟩ (by decide +kernel) (by decide) (by decide) ?_ (fun x hx => by cases hx) rfl (fun w19 k16 => ?_))))
      · intro q hq; cases hq
      replace hbx1 := hbx1.s8 k16
      replace ox := ox.s8 k16
      replace hB := hB.trans k16
      refine bu 8 rfl rfl rfl rfl rfl (bu 9 rfl rfl rfl rfl rfl (al 1 rfl rfl rfl rfl (fun W' kk => ax 0 aE rfl dV (by decide) rfl rfl) (cn 68 69 rfl rfl rfl rfl rfl (fun W' kk => ar i aF cU rfl rfl (by omega) (by omega)) ?_)))
      have hi16 : i < 16 := by omega
      refine dg (e' := n i) (lo := 0) (hi := 65535) [(70, _)] rfl rfl ⟨rfl, trivial⟩ rfl (fun W' kk => ah dc rfl (Bk.s8 hbx1 kk) (bO hi16)) (rfl) (hI.2.1 i hi16) (fun z34 h22 r22 => dg (e' := z34 % 256) (lo := 0) (hi := 255) [(71, _)] rfl rfl ⟨rfl, trivial⟩ rfl (fun W' kk => eb (by rw [aJ]; rfl) aH rfl) (cc rfl _) (In.wk (bb _ (by decide)) rfl) (fun z35 h23 r23 => bu 9 rfl rfl rfl rfl rfl (al 1 rfl rfl rfl rfl (fun W' kk => ax 0 aE rfl dV (by decide) rfl rfl) (cn 73 74 rfl rfl rfl rfl rfl (fun W' kk => ar i aF cU rfl rfl (by omega) (by omega)) (dg (e' := n i) (lo := 0) (hi := 65535) [(75, _)] rfl rfl ⟨rfl, trivial⟩ rfl (fun W' kk => ah dc rfl (Bk.s8 hbx1 kk) (bO hi16)) (rfl) (hI.2.1 i hi16) (fun z36 h24 r24 => dg (e' := z36 / 256) (lo := 0) (hi := 255) [(76, _)] rfl rfl ⟨rfl, trivial⟩ rfl (fun W' kk => cI (m := 256) rfl rfl (by decide) rfl) (rfl) (In.wk (bl r24 (by decide)) rfl) (fun z37 h25 r25 => dg (e' := z37) (lo := 0) (hi := 255) [(77, _)] rfl rfl ⟨rfl, trivial⟩ rfl (fun W' kk => eb (by rw [aJ]; rfl) aH rfl) (ap r25 rfl) (r25) (fun z38 h26 r26 => bo [(72, _), (78, _)] rfl rfl ⟨rfl, rfl, trivial⟩ rfl (fun w21 k18 => ?_)))))))))
      replace hbx1 := hbx1.s8 k18
      replace ox := ox.s8 k18
      replace hB := hB.trans k18
      refine (dv (m := 2) (xs := [.tmp 72, .tmp 78]) (vs := [_, _]) aA cg (by decide) rfl rfl rfl (by simp only [List.forall_mem_cons]; exact ⟨rfl, rfl, fun v hv => by cases hv⟩) (by decide)).mono ?_
      rintro v1 w20 ⟨o1, nn1, lb1, k17, z39⟩
      refine ⟨k17, (fun x hx => ⟨.inr (o1.blk x (o1.rd.cblk ▸ hx)).1, (o1.blk x (o1.rd.cblk ▸ hx)).2⟩), ?_⟩
      replace hbx1 := hbx1.s8 k17
      replace ox := ox.s8 k17
      replace hB := hB.trans k17
      refine cC (fun w22 k19 => ?_)
      replace hbx1 := hbx1.s8 k19
      replace ox := ox.s8 k19
      replace o1 := o1.s8 k19
      replace hB := hB.trans k19
      refine bX ?_
      replace o1 : Own w22 _ 5 1 v1 2 [.int .u8 z35, .int .u8 z38] := o1
      have hlt := hbx1.lt
      refine ad (m7 aA cg (by decide) rfl rfl ox rfl o1.rd (by simp only [List.forall_mem_cons]; exact ⟨rfl, rfl, fun v hv => by cases hv⟩) ⟨by omega, by omega⟩ hB.size) rfl ?_
      rintro v9 w9 ⟨ox2, k9, lb9, _⟩
      rw [pi hI.2.1 hi16 h22 h24 h23 h25 h26] at ox2
      have hsep2 : ∀ x, x ∈ vblk v9 → x ≠ b1 := fun x hx => (lb9 x hx).elim (fun h => hsep x h) (fun h => by omega)
      replace hB := hB.new k9 (fun x hx => .inl (ox.blk x hx).1)
      replace hbx1 := hbx1.keep k9 (fun hm => hsep _ hm rfl)
      clear o1 ox
      refine oga rfl rfl (a6 (a9 [(8, _), (9, _), (1, _)] ⟨rfl, rfl, rfl, trivial⟩ (bZ (aZ (ogm rfl rfl (a7 (bi rfl rfl (by omega)) rfl (oga rfl rfl (a6 ?_))))))))
      refine bM (Γ := Nat × Value) ⟨i + 1, v9⟩ ⟨rfl, rfl, rfl, trivial⟩ (by (try dsimp only); omega) (⟨by omega, ox2, hsep2, hbx1, hB⟩)
    · -- no
      refine bF rfl (a5 (aZ (ogm rfl rfl (oga rfl rfl (a6 (bG hfin Tryz.results72 rfl ?_))))))
      have e : limbB n i = fpB a := rX hI (by omega) (by omega)
      have l : 2 * i = (fpB a).length := by rw [bJ]; omega
      rw [e, l] at ox
      exact ⟨ox, hB⟩
end Go.Proofs.YtllmbkmghmmhfaaGreatDoor.W
