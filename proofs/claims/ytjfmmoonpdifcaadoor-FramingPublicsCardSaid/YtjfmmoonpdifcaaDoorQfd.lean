/- Contracts and laws, part 4 of 6: what each function of the program and of the reference computes, shown once. -/
import Derived.Defers
import Derived.Recover
import Derived.WideLaws
import Derived.Test.YtjfmmoonpdifcaaDoorQfc
set_option maxRecDepth 100000
set_option maxHeartbeats 4000000
set_option linter.unusedVariables false
set_option linter.unusedSimpArgs false
namespace Go.Proofs.YtjfmmoonpdifcaaDoor.W
open Go Go.Eng Go.Byt
open Go.Sha
theorem jH (p : Nat) (v : Value) (bs : List UInt8) (s : S8 32) (w : World) (hT : Tabs w) (hv : RdB w v bs) (hl : bs.length = 64) (hp : 1 < p) (hnv : ∀ x, x ∈ vblk v → x ∉ [p]) (hbz : Bk w p 104 [.int .i64 32, .int .i64 64, .int .i64 7, .int .i64 18, .int .i64 3, .int .i64 17, .int .i64 19, .int .i64 10, .int .i64 2, .int .i64 13, .int .i64 22, .int .i64 6, .int .i64 11, .int .i64 25, .int .u32 ((s.a).toNat : Int), .int .u32 ((s.b).toNat : Int), .int .u32 ((s.c).toNat : Int), .int .u32 ((s.d).toNat : Int), .int .u32 ((s.e).toNat : Int), .int .u32 ((s.f).toNat : Int), .int .u32 ((s.g).toNat : Int), .int .u32 ((s.h).toNat : Int)]) : Rets Tryd.prog 81 [.pointer (some ⟨p, 0, none⟩), v] w (fun r w' => r = .tuple #[] ∧ Bk w' p 104 [.int .i64 32, .int .i64 64, .int .i64 7, .int .i64 18, .int .i64 3, .int .i64 17, .int .i64 19, .int .i64 10, .int .i64 2, .int .i64 13, .int .i64 22, .int .i64 6, .int .i64 11, .int .i64 25, .int .u32 (((blk bf Kl bs s).a).toNat : Int), .int .u32 (((blk bf Kl bs s).b).toNat : Int), .int .u32 (((blk bf Kl bs s).c).toNat : Int), .int .u32 (((blk bf Kl bs s).d).toNat : Int), .int .u32 (((blk bf Kl bs s).e).toNat : Int), .int .u32 (((blk bf Kl bs s).f).toNat : Int), .int .u32 (((blk bf Kl bs s).g).toNat : Int), .int .u32 (((blk bf Kl bs s).h).toNat : Int)] ∧ Keep [p] w w') := by
  have hB : Keep [p] w w := Keep.refl _ _
  have hcap := hv.vcap
  have hpS : ∀ x, x ∈ [p] → 1 < x := fun x hx => by rw [List.mem_singleton] at hx; omega
  refine ad Tryd.func81 rfl (by decide) Tryd.ntmps81 rfl (fun fin _ hfin => ?_)
  refine aY ?_
  refine aX ?_
  refine ah (cI ty114) rfl ?_
  rintro _ w1 ⟨b1, rfl, eb1, hb1, k1, z1⟩
  have ge_b1 : w.heap.size ≤ b1 := by have := hB.size; omega
  have ne_p_b1 : p ≠ b1 := by have := hbz.lt; omega
  replace hbz := hbz.lh k1
  replace hB := hB.trans k1.weak
  clear eb1 z1
  replace hb1 : Bk w1 b1 114 (iv .u32 80 (fun _ => 0)) := by rw [iv, jn]; exact hb1
  refine aZ ?_
  refine aY ?_
  refine aX ?_
  refine ogm rfl rfl ?_
  refine a4 (ai rfl) rfl ?_
  refine a4 (aj 0 aH rfl eY (by decide) rfl rfl) rfl ?_
  refine a4 (aj 0 aM rfl bJ (by decide) rfl rfl) rfl ?_
  refine a4 (ac bZ rfl hbz rfl) rfl ?_
  refine a4 (ak (j := 4) (iE rfl rfl (by decide)) (by decide)) rfl ?_
  refine oga rfl rfl ?_
  refine aZ ?_
  refine aY ?_
  refine aY ?_
  refine aX ?_
  refine ogm rfl rfl ?_
  refine aZ ?_
  refine ag ?_
  rw [← wN_nil (n := 32)] at hb1
  refine bT (Γ := Nat) (fun i => [(0, .pointer (some ⟨p, 0, none⟩)), (1, v), (4, .pointer (some ⟨b1, 0, none⟩)), (5, .int .i64 4), (23, .int .i64 (i : Int))]) (fun i W => i ≤ 16 ∧ Bk W b1 114 (iv .u32 80 (wN ((List.range i).map (wrd 32 bs)))) ∧ Bk W p 104 [.int .i64 32, .int .i64 64, .int .i64 7, .int .i64 18, .int .i64 3, .int .i64 17, .int .i64 19, .int .i64 10, .int .i64 2, .int .i64 13, .int .i64 22, .int .i64 6, .int .i64 11, .int .i64 25, .int .u32 ((s.a).toNat : Int), .int .u32 ((s.b).toNat : Int), .int .u32 ((s.c).toNat : Int), .int .u32 ((s.d).toNat : Int), .int .u32 ((s.e).toNat : Int), .int .u32 ((s.f).toNat : Int), .int .u32 ((s.g).toNat : Int), .int .u32 ((s.h).toNat : Int)] ∧ Keep [p] w W) (fun i => 16 - i) 0 ⟨rfl, rfl, rfl, rfl, rfl, trivial⟩ (⟨by omega, hb1, hbz, hB⟩) ?_
  rintro i w2 ⟨hi0, hbw, hbz, hB⟩
  refine ab [(0, .pointer (some ⟨p, 0, none⟩)), (1, v), (4, .pointer (some ⟨b1, 0, none⟩)), (5, .int .i64 4), (23, .int .i64 (i : Int))] ⟨rfl, rfl, rfl, rfl, rfl, trivial⟩ ?_
  refine aY ?_
  refine aX ?_
  refine a4 (bO rfl rfl) rfl ?_
  refine aZ ?_
  refine aY ?_
  refine ar rfl (fun hc1 => ?_) (fun hc1 => ?_)
  · -- yes
    refine a8 ?_
    refine aY ?_
    refine ag ?_
    refine aY ?_
    refine aX ?_
    refine ogm rfl rfl ?_
    refine oga rfl rfl ?_
    refine aZ ?_
    refine aY ?_
    refine aX ?_
    refine ogm rfl rfl ?_
    refine ogm rfl rfl ?_
    refine ogm rfl rfl ?_
    refine a4 (f7 rfl rfl (by omega)) rfl ?_
    refine ogm rfl rfl ?_
    refine ogm rfl rfl ?_
    refine a4 (f7 rfl rfl (by omega)) rfl ?_
    refine ogm rfl rfl ?_
    refine a4 (br rfl rfl (by omega)) rfl ?_
    have hcu : RdB _ (cut v (4 * i) (4 * i + 4) 1) ((bs.drop (4 * i)).take (4 * i + 4 - 4 * i)) := (hv.keep hB hnv).cutB (by omega) (by omega)
    rw [show 4 * i + 4 - 4 * i = 4 from by omega] at hcu
    have hcl : ((bs.drop (4 * i)).take 4).length = 4 := by rw [List.length_take, List.length_drop]; omega
    refine a4 (aw (v' := cut v (4 * i) (4 * i + 4) 1) (ek aA bu rfl (hv.keep hB hnv) (.inr ⟨_, _, rfl, rfl⟩) (.inr ⟨_, _, rfl, rfl⟩) (by omega)) (by rw [show ((4 : Int) * (i : Int)).toNat = 4 * i from by omega, show ((4 : Int) * (i : Int) + 4).toNat = 4 * i + 4 from by omega])) rfl ?_
    refine a4 (aw (v' := .int .i64 4) (bI aA rfl hcu) (by rw [hcl]; rfl)) rfl ?_
    refine ogm rfl rfl ?_
    refine aZ ?_
    refine ab [(0, _), (1, _), (4, _), (5, _), (23, _), (6, _), (35, _), (36, _), (37, _)] ⟨rfl, rfl, rfl, rfl, rfl, rfl, rfl, rfl, rfl, trivial⟩ ?_
    refine ag ?_
    have hw0 := jc ((List.range i).map (wrd 32 bs))
    rw [← hw0] at hbw
    have hwl : ((List.range i).map (wrd 32 bs)).length = i := by simp
    refine bT (Γ := Nat) (fun k => [(0, .pointer (some ⟨p, 0, none⟩)), (1, v), (4, .pointer (some ⟨b1, 0, none⟩)), (5, .int .i64 4), (6, .int .i64 (i : Int)), (23, .int .i64 (i : Int)), (35, (cut v (4 * i) (4 * i + 4) 1)), (36, .int .i64 4), (37, .int .i64 (k : Int))]) (fun k W => k ≤ 4 ∧ Bk W b1 114 (iv .u32 80 (wN (((List.range i).map (wrd 32 bs)) ++ [wrdF 0 (((bs.drop (4 * i)).take 4).take k)]))) ∧ Bk W p 104 [.int .i64 32, .int .i64 64, .int .i64 7, .int .i64 18, .int .i64 3, .int .i64 17, .int .i64 19, .int .i64 10, .int .i64 2, .int .i64 13, .int .i64 22, .int .i64 6, .int .i64 11, .int .i64 25, .int .u32 ((s.a).toNat : Int), .int .u32 ((s.b).toNat : Int), .int .u32 ((s.c).toNat : Int), .int .u32 ((s.d).toNat : Int), .int .u32 ((s.e).toNat : Int), .int .u32 ((s.f).toNat : Int), .int .u32 ((s.g).toNat : Int), .int .u32 ((s.h).toNat : Int)] ∧ Keep [p] w W) (fun k => 4 - k) 0 ⟨rfl, rfl, rfl, rfl, rfl, rfl, rfl, rfl, rfl, trivial⟩ (⟨by omega, hbw, hbz, hB⟩) ?_
    rintro k w3 ⟨hk0, hbw, hbz, hB⟩
    refine ab [(0, .pointer (some ⟨p, 0, none⟩)), (1, v), (4, .pointer (some ⟨b1, 0, none⟩)), (5, .int .i64 4), (6, .int .i64 (i : Int)), (23, .int .i64 (i : Int)), (35, (cut v (4 * i) (4 * i + 4) 1)), (36, .int .i64 4), (37, .int .i64 (k : Int))] ⟨rfl, rfl, rfl, rfl, rfl, rfl, rfl, rfl, rfl, trivial⟩ ?_
    refine aY ?_
    refine aX ?_
    refine a4 (bO rfl rfl) rfl ?_
    refine aZ ?_
    refine aY ?_
    refine ar rfl (fun hc2 => ?_) (fun hc2 => ?_)
    · -- yes
      refine a8 ?_
      refine aY ?_
      refine ag ?_
      refine aY ?_
      refine aX ?_
      have hcu : RdB _ (cut v (4 * i) (4 * i + 4) 1) ((bs.drop (4 * i)).take (4 * i + 4 - 4 * i)) := (hv.keep hB hnv).cutB (by omega) (by omega)
      rw [show 4 * i + 4 - 4 * i = 4 from by omega] at hcu
      refine a4 (bR aA bu rfl (by first | assumption | exact Own.rd (by assumption) | exact Rd.lh (by assumption) hB | exact Own.rd (Own.lh (by assumption) hB)) rfl (by omega)) rfl ?_
      obtain ⟨c, hc⟩ : ∃ c, ((bs.drop (4 * i)).take 4)[k]? = some c := ⟨_, List.getElem?_eq_getElem (by omega)⟩
      have hgc : gb ((bs.drop (4 * i)).take 4) (k : Int) = (c.toNat : Int) := by unfold gb; rw [List.getD_eq_getElem?_getD, Int.toNat_natCast, hc]; rfl
      refine a4 (aw (v' := .int .u8 (c.toNat : Int)) (eK jR rfl hcu (by omega)) (by rw [hgc])) rfl ?_
      refine oga rfl rfl ?_
      refine aZ ?_
      refine aX ?_
      refine ogm rfl rfl ?_
      refine ogm rfl rfl ?_
      refine a4 (bG i aW bX rfl rfl (by omega) (by omega)) rfl ?_
      refine a4 (aw (v' := .int .u32 ((wrdF 0 (((bs.drop (4 * i)).take 4).take k)).toNat : Int)) (ac dJ rfl hbw (cq (by omega))) (by rw [jd _ _ hwl])) rfl ?_
      refine a4 (lT 8 rfl rfl rfl (by decide)) rfl ?_
      refine ogm rfl rfl ?_
      refine a4 (gc_cv c (by rw [aI]; rfl) aS rfl rfl) rfl ?_
      refine a4 (gc_or rfl rfl) rfl ?_
      refine a4 (bG i aW bX rfl rfl (by omega) (by omega)) rfl ?_
      refine am (lW (v := ((((wrdF 0 (((bs.drop (4 * i)).take 4).take k)) <<< 8) ||| (BitVec.ofNat 32 c.toNat)).toNat : Int)) bX rfl rfl hbw (by omega)) ?_
      rintro _ w4 ⟨hb2, k2, z2⟩
      replace hbz := hbz.keep k2 (nm ne_p_b1)
      replace hB := hB.new k2 (nw ge_b1)
      clear z2
      refine aZ ?_
      refine ab [(0, _), (1, _), (4, _), (5, _), (6, _), (23, _), (35, _), (36, _), (37, _)] ⟨rfl, rfl, rfl, rfl, rfl, rfl, rfl, rfl, rfl, trivial⟩ ?_
      refine bg ?_
      refine aX ?_
      refine a4 (br rfl rfl (by omega)) rfl ?_
      refine ogm rfl rfl ?_
      refine aZ ?_
      refine bd (Γ := Nat) (k + 1) ⟨rfl, rfl, rfl, rfl, rfl, rfl, rfl, rfl, rfl, trivial⟩ (by (try dsimp only); omega) (⟨by omega, by rw [hD hc, ← fy _ (wrdF 0 (((bs.drop (4 * i)).take 4).take k)) _ hwl]; exact hb2, hbz, hB⟩)
    · -- no
      refine bN rfl ?_
      refine bg ?_
      refine aX ?_
      refine a4 (br rfl rfl (by omega)) rfl ?_
      refine ogm rfl rfl ?_
      refine aZ ?_
      obtain rfl : k = 4 := by omega
      rw [List.take_of_length_le (show ((bs.drop (4 * i)).take 4).length ≤ 4 from by omega)] at hbw
      refine bd (Γ := Nat) (i + 1) ⟨rfl, rfl, rfl, rfl, rfl, trivial⟩ (by (try dsimp only); omega) (⟨by omega, by rw [hC]; exact hbw, hbz, hB⟩)
  · -- no
    refine bN rfl ?_
    refine aY ?_
    refine aY ?_
    refine aX ?_
    refine oga rfl rfl ?_
    refine aZ ?_
    refine ag ?_
    obtain rfl : i = 16 := by omega
    refine bT (Γ := Nat) (fun t => [(0, .pointer (some ⟨p, 0, none⟩)), (4, .pointer (some ⟨b1, 0, none⟩)), (9, .int .i64 (t : Int))]) (fun t W => 16 ≤ t ∧ t ≤ 64 ∧ Bk W b1 114 (iv .u32 80 (wN (sch bf bs (t - 16)))) ∧ Bk W p 104 [.int .i64 32, .int .i64 64, .int .i64 7, .int .i64 18, .int .i64 3, .int .i64 17, .int .i64 19, .int .i64 10, .int .i64 2, .int .i64 13, .int .i64 22, .int .i64 6, .int .i64 11, .int .i64 25, .int .u32 ((s.a).toNat : Int), .int .u32 ((s.b).toNat : Int), .int .u32 ((s.c).toNat : Int), .int .u32 ((s.d).toNat : Int), .int .u32 ((s.e).toNat : Int), .int .u32 ((s.f).toNat : Int), .int .u32 ((s.g).toNat : Int), .int .u32 ((s.h).toNat : Int)] ∧ Keep [p] w W) (fun t => 64 - t) 16 ⟨rfl, rfl, rfl, trivial⟩ (⟨by omega, by omega, hbw, hbz, hB⟩) ?_
    rintro t w5 ⟨ht0, ht1, hbw, hbz, hB⟩
    refine ab [(0, .pointer (some ⟨p, 0, none⟩)), (4, .pointer (some ⟨b1, 0, none⟩)), (9, .int .i64 (t : Int))] ⟨rfl, rfl, rfl, trivial⟩ ?_
    refine aY ?_
    refine aY ?_
    refine aX ?_
    refine ogm rfl rfl ?_
    refine ogm rfl rfl ?_
    refine a4 (ai rfl) rfl ?_
    refine a4 (aj 0 aH rfl eY (by decide) rfl rfl) rfl ?_
    refine a4 (aj 1 aM rfl bJ (by decide) rfl rfl) rfl ?_
    refine a4 (ac bZ rfl hbz rfl) rfl ?_
    refine a4 (bO rfl rfl) rfl ?_
    refine aZ ?_
    refine ar rfl (fun hc3 => ?_) (fun hc3 => ?_)
    · -- yes
      refine a8 ?_
      refine aY ?_
      refine ag ?_
      refine cH 34 [0, 1, 2, 3, 4, 5, 6, 7, 8, 9, 10, 12, 13, 14, 15, 17, 18, 19, 20, 21, 22, 23, 24, 25, 26, 29, 30, 31, 32, 11, 16, 27, 28, 33] [11, 27] [] mixed [(9, _), (0, _), (4, _)] ⟨rfl, rfl, rfl, trivial⟩ (by decide +kernel) rfl (fun w6 k3 => ?_)
      replace hbw := hbw.lh k3
      replace hbz := hbz.lh k3
      replace hB := hB.trans k3.weak
      refine bC 9 rfl rfl rfl rfl rfl ?_
      refine bC 0 rfl rfl rfl rfl rfl ?_
      refine bC 9 rfl rfl rfl rfl rfl ?_
      refine aq 63 rfl rfl rfl rfl (fun W' kk => cy rfl rfl (by omega)) ?_
      refine bb 4 64 rfl rfl rfl rfl rfl (fun W' kk => bG (t - 2) aW bX rfl rfl (by omega) (by omega)) ?_
      refine aq 65 rfl rfl rfl rfl (fun W' kk => ac dJ rfl (Bk.lh hbw kk) (cq (by omega))) ?_
      refine bC 0 rfl rfl rfl rfl rfl ?_
      refine aq 67 rfl rfl rfl rfl (fun W' kk => ai rfl) ?_
      refine aq 68 rfl rfl rfl rfl (fun W' kk => aj 0 aH rfl eY (by decide) rfl rfl) ?_
      refine aq 69 rfl rfl rfl rfl (fun W' kk => aj 5 aM rfl gG (by decide) rfl rfl) ?_
      refine aq 70 rfl rfl rfl rfl (fun W' kk => an (cs' := [_, _, _]) ag94 gG rfl (Bk.lh hbz kk) rfl rfl) ?_
      refine bC 9 rfl rfl rfl rfl rfl ?_
      refine aq 73 rfl rfl rfl rfl (fun W' kk => cy rfl rfl (by omega)) ?_
      refine bb 4 74 rfl rfl rfl rfl rfl (fun W' kk => bG (t - 7) aW bX rfl rfl (by omega) (by omega)) ?_
      refine aq 75 rfl rfl rfl rfl (fun W' kk => ac dJ rfl (Bk.lh hbw kk) (cq (by omega))) ?_
      refine bC 0 rfl rfl rfl rfl rfl ?_
      refine bC 9 rfl rfl rfl rfl rfl ?_
      refine aq 79 rfl rfl rfl rfl (fun W' kk => cy rfl rfl (by omega)) ?_
      refine bb 4 80 rfl rfl rfl rfl rfl (fun W' kk => bG (t - 15) aW bX rfl rfl (by omega) (by omega)) ?_
      refine aq 81 rfl rfl rfl rfl (fun W' kk => ac dJ rfl (Bk.lh hbw kk) (cq (by omega))) ?_
      refine bC 0 rfl rfl rfl rfl rfl ?_
      refine aq 83 rfl rfl rfl rfl (fun W' kk => ai rfl) ?_
      refine aq 84 rfl rfl rfl rfl (fun W' kk => aj 0 aH rfl eY (by decide) rfl rfl) ?_
      refine aq 85 rfl rfl rfl rfl (fun W' kk => aj 2 aM rfl gG (by decide) rfl rfl) ?_
      refine aq 86 rfl rfl rfl rfl (fun W' kk => an (cs' := [_, _, _]) ag94 gG rfl (Bk.lh hbz kk) rfl rfl) ?_
      refine bC 9 rfl rfl rfl rfl rfl ?_
      refine aq 90 rfl rfl rfl rfl (fun W' kk => cy rfl rfl (by omega)) ?_
      refine bb 4 91 rfl rfl rfl rfl rfl (fun W' kk => bG (t - 16) aW bX rfl rfl (by omega) (by omega)) ?_
      refine aq 92 rfl rfl rfl rfl (fun W' kk => ac dJ rfl (Bk.lh hbw kk) (cq (by omega))) ?_
      refine dK [(62, _), (66, _), (71, _)] rfl rfl ⟨rfl, rfl, rfl, trivial⟩ rfl (a7 (vs := [_, _, _]) rfl (iB p _ _ _ _ _ _ _ _ _ _ _ _ _ _ _ _ _ _ _ _ _ ((sch bf bs (t - 16)).getD (t - 2) 0) 17 19 10 (by decide) (by decide) (by decide) _ hbz)) ?_
      rintro _ w7 ⟨rfl, k4⟩
      refine ⟨k4, ?_⟩
      replace hbw := hbw.lh k4
      replace hbz := hbz.lh k4
      replace hB := hB.trans k4.weak
      refine bb 72 76 rfl rfl rfl rfl rfl (fun W' kk => cr rfl rfl) ?_
      refine dK [(78, _), (82, _), (87, _)] rfl rfl ⟨rfl, rfl, rfl, trivial⟩ rfl (a7 (vs := [_, _, _]) rfl (iB p _ _ _ _ _ _ _ _ _ _ _ _ _ _ _ _ _ _ _ _ _ ((sch bf bs (t - 16)).getD (t - 15) 0) 7 18 3 (by decide) (by decide) (by decide) _ hbz)) ?_
      rintro _ w8 ⟨rfl, k5⟩
      refine ⟨k5, ?_⟩
      replace hbw := hbw.lh k5
      replace hbz := hbz.lh k5
      replace hB := hB.trans k5.weak
      refine bb 77 88 rfl rfl rfl rfl rfl (fun W' kk => cr rfl rfl) ?_
      refine bb 89 93 rfl rfl rfl rfl rfl (fun W' kk => cr rfl rfl) ?_
      refine cY ?_
      refine a4 (bG t aW bX rfl rfl (by omega) (by omega)) rfl ?_
      refine am (lW (v := (((((lo (17, 19, 10) ((sch bf bs (t - 16)).getD (t - 2) 0)) + ((sch bf bs (t - 16)).getD (t - 7) 0)) + (lo (7, 18, 3) ((sch bf bs (t - 16)).getD (t - 15) 0))) + ((sch bf bs (t - 16)).getD (t - 16) 0)).toNat : Int)) bX rfl rfl hbw (by omega)) ?_
      rintro _ w9 ⟨hb3, k6, z3⟩
      replace hbz := hbz.keep k6 (nm ne_p_b1)
      replace hB := hB.new k6 (nw ge_b1)
      clear z3
      refine aZ ?_
      refine ab [(9, _), (0, _), (4, _)] ⟨rfl, rfl, rfl, trivial⟩ ?_
      refine bg ?_
      refine aX ?_
      refine ogm rfl rfl ?_
      refine a4 (br rfl rfl (by omega)) rfl ?_
      refine oga rfl rfl ?_
      refine aZ ?_
      refine bd (Γ := Nat) (t + 1) ⟨rfl, rfl, rfl, trivial⟩ (by (try dsimp only); omega) (⟨by omega, by omega, by rw [show t + 1 - 16 = (t - 16) + 1 from by omega, sch, ← jL _ _ (by rw [ed]; omega : (sch bf bs (t - 16)).length = t), show 16 + (t - 16) = t from by omega]; exact hb3, hbz, hB⟩)
    · -- no
      refine bN rfl ?_
      refine aY ?_
      refine aX ?_
      refine ogm rfl rfl ?_
      refine a4 (ai rfl) rfl ?_
      refine a4 (aj 14 aH rfl cP (by decide) rfl rfl) rfl ?_
      refine a4 (an (cs' := [_, _, _, _, _, _, _, _]) ag102 cP rfl hbz rfl rfl) rfl ?_
      refine ah (cI cP) rfl ?_
      rintro _ w10 ⟨b2, rfl, eb2, hb4, k7, z4⟩
      have ge_b2 : w.heap.size ≤ b2 := by have := hB.size; omega
      have ne_b1_b2 : b1 ≠ b2 := by have := hbw.lt; omega
      have ne_p_b2 : p ≠ b2 := by have := hbz.lt; omega
      replace hbw := hbw.lh k7
      replace hbz := hbz.lh k7
      replace hB := hB.trans k7.weak
      clear eb2 z4
      refine am (bU cP rfl rfl rfl (by simp only [List.forall_mem_cons]; refine ⟨rfl, rfl, rfl, rfl, rfl, rfl, rfl, rfl, fun v hv => by cases hv⟩) hb4 rfl) ?_
      rintro _ w11 ⟨hb5, k8, z5⟩
      replace hbw := hbw.keep k8 (nm ne_b1_b2)
      replace hbz := hbz.keep k8 (nm ne_p_b2)
      replace hB := hB.new k8 (nw ge_b2)
      clear z5
      replace hb5 : Bk w11 b2 _ [.int .u32 ((s.a).toNat : Int), .int .u32 ((s.b).toNat : Int), .int .u32 ((s.c).toNat : Int), .int .u32 ((s.d).toNat : Int), .int .u32 ((s.e).toNat : Int), .int .u32 ((s.f).toNat : Int), .int .u32 ((s.g).toNat : Int), .int .u32 ((s.h).toNat : Int)] := hb5
      refine aZ ?_
      refine ab [(0, _), (4, _), (10, _)] ⟨rfl, rfl, rfl, trivial⟩ ?_
      refine aY ?_
      refine aY ?_
      refine aX ?_
      refine ogm rfl rfl ?_
      refine a4 (ai rfl) rfl ?_
      refine a4 (aj 0 aH rfl eY (by decide) rfl rfl) rfl ?_
      refine a4 (aj 1 aM rfl bJ (by decide) rfl rfl) rfl ?_
      refine a4 (ac bZ rfl hbz rfl) rfl ?_
      refine ogm rfl rfl ?_
      refine aZ ?_
      refine ag ?_
      obtain rfl : t = 64 := by omega
      refine bT (Γ := Nat × S8 32) (fun ⟨i, X⟩ => [(0, .pointer (some ⟨p, 0, none⟩)), (4, .pointer (some ⟨b1, 0, none⟩)), (10, .pointer (some ⟨b2, 0, none⟩)), (104, .int .i64 64), (105, .int .i64 (i : Int))]) (fun ⟨i, X⟩ W => i ≤ 64 ∧ X = rnds bf Kl (sch bf bs 48) s i ∧ Bk W b1 114 (iv .u32 80 (wN (sch bf bs 48))) ∧ Bk W p 104 [.int .i64 32, .int .i64 64, .int .i64 7, .int .i64 18, .int .i64 3, .int .i64 17, .int .i64 19, .int .i64 10, .int .i64 2, .int .i64 13, .int .i64 22, .int .i64 6, .int .i64 11, .int .i64 25, .int .u32 ((s.a).toNat : Int), .int .u32 ((s.b).toNat : Int), .int .u32 ((s.c).toNat : Int), .int .u32 ((s.d).toNat : Int), .int .u32 ((s.e).toNat : Int), .int .u32 ((s.f).toNat : Int), .int .u32 ((s.g).toNat : Int), .int .u32 ((s.h).toNat : Int)] ∧ Bk W b2 102 [.int .u32 ((X.a).toNat : Int), .int .u32 ((X.b).toNat : Int), .int .u32 ((X.c).toNat : Int), .int .u32 ((X.d).toNat : Int), .int .u32 ((X.e).toNat : Int), .int .u32 ((X.f).toNat : Int), .int .u32 ((X.g).toNat : Int), .int .u32 ((X.h).toNat : Int)] ∧ Keep [p] w W) (fun ⟨i, X⟩ => 64 - i) ⟨0, s⟩ ⟨rfl, rfl, rfl, rfl, rfl, trivial⟩ (⟨by omega, rfl, hbw, hbz, hb5, hB⟩) ?_
      rintro ⟨i, X⟩ w12 ⟨hi0, hX, hbw, hbz, hbx, hB⟩
      refine ab [(0, .pointer (some ⟨p, 0, none⟩)), (4, .pointer (some ⟨b1, 0, none⟩)), (10, .pointer (some ⟨b2, 0, none⟩)), (104, .int .i64 64), (105, .int .i64 (i : Int))] ⟨rfl, rfl, rfl, rfl, rfl, trivial⟩ ?_
      refine aY ?_
      refine aX ?_
      refine a4 (bO rfl rfl) rfl ?_
      refine aZ ?_
      refine aY ?_
      refine ar rfl (fun hc4 => ?_) (fun hc4 => ?_)
      · -- yes
        refine a8 ?_
        refine aY ?_
        refine ag ?_
        refine aY ?_
        refine aX ?_
        refine ogm rfl rfl ?_
        refine oga rfl rfl ?_
        refine aZ ?_
        refine aY ?_
        refine fE mixed (by decide +kernel) (fun w13 k9 => ?_)
        replace hbw := hbw.lh k9
        replace hbz := hbz.lh k9
        replace hbx := hbx.lh k9
        replace hB := hB.trans k9.weak
        refine dI (bG 4 aF bX rfl rfl (by omega) (by omega)) rfl ?_
        refine dI (ac dJ rfl hbx rfl) rfl ?_
        refine dI (bG 0 aF bX rfl rfl (by omega) (by omega)) rfl ?_
        refine dI (ac dJ rfl hbx rfl) rfl ?_
        refine dI (ft rfl) rfl ?_
        refine dI (ft rfl) rfl ?_
        refine gZ ?_
        refine aZ ?_
        refine aY ?_
        refine cH 38 [0, 1, 2, 3, 4, 5, 6, 7, 8, 11, 12, 13, 14, 15, 16, 17, 18, 19, 20, 22, 23, 24, 25, 26, 27, 28, 29, 30, 31, 32, 34, 35, 36, 9, 10, 21, 33, 37] [9] [] mixed [(10, _), (0, _), (12, _), (11, _), (4, _), (104, _), (105, _), (13, _)] ⟨rfl, rfl, rfl, rfl, rfl, rfl, rfl, rfl, trivial⟩ (by decide +kernel) rfl (fun w14 k10 => ?_)
        replace hbw := hbw.lh k10
        replace hbz := hbz.lh k10
        replace hbx := hbx.lh k10
        replace hB := hB.trans k10.weak
        refine aq 10 rfl rfl rfl rfl (fun W' kk => bG 7 aF bX rfl rfl (by omega) (by omega)) ?_
        refine aq 112 rfl rfl rfl rfl (fun W' kk => ac dJ rfl (Bk.lh hbx kk) rfl) ?_
        refine bC 0 rfl rfl rfl rfl rfl ?_
        refine bC 12 rfl rfl rfl rfl rfl ?_
        refine bC 0 rfl rfl rfl rfl rfl ?_
        refine aq 116 rfl rfl rfl rfl (fun W' kk => ai rfl) ?_
        refine aq 117 rfl rfl rfl rfl (fun W' kk => aj 0 aH rfl eY (by decide) rfl rfl) ?_
        refine aq 118 rfl rfl rfl rfl (fun W' kk => aj 11 aM rfl gG (by decide) rfl rfl) ?_
        refine aq 119 rfl rfl rfl rfl (fun W' kk => an (cs' := [_, _, _]) ag94 gG rfl (Bk.lh hbz kk) rfl rfl) ?_
        refine bC 12 rfl rfl rfl rfl rfl ?_
        refine aq 10 rfl rfl rfl rfl (fun W' kk => bG 5 aF bX rfl rfl (by omega) (by omega)) ?_
        refine aq 124 rfl rfl rfl rfl (fun W' kk => ac dJ rfl (Bk.lh hbx kk) rfl) ?_
        refine bb 123 125 rfl rfl rfl rfl rfl (fun W' kk => gl rfl rfl) ?_
        refine bC 12 rfl rfl rfl rfl rfl ?_
        refine aq 127 rfl rfl rfl rfl (fun W' kk => gc_com rfl) ?_
        refine aq 10 rfl rfl rfl rfl (fun W' kk => bG 6 aF bX rfl rfl (by omega) (by omega)) ?_
        refine aq 129 rfl rfl rfl rfl (fun W' kk => ac dJ rfl (Bk.lh hbx kk) rfl) ?_
        refine bb 128 130 rfl rfl rfl rfl rfl (fun W' kk => gl rfl rfl) ?_
        refine bb 126 131 rfl rfl rfl rfl rfl (fun W' kk => fO rfl rfl) ?_
        refine bC 11 rfl rfl rfl rfl rfl ?_
        refine aq 134 rfl rfl rfl rfl (fun W' kk => bG i Tryd.underlying116 bE rfl rfl (by omega) (by omega)) ?_
        refine aq 135 rfl rfl rfl rfl (fun W' kk => g_ld bW rfl ((hT.keep (hB.trans kk.weak) hpS).cube (by omega))) ?_
        refine bC 0 rfl rfl rfl rfl rfl ?_
        refine aq 137 rfl rfl rfl rfl (fun W' kk => ai rfl) ?_
        refine aq 138 rfl rfl rfl rfl (fun W' kk => aj 0 aH rfl eY (by decide) rfl rfl) ?_
        refine aq 139 rfl rfl rfl rfl (fun W' kk => aj 0 aM rfl bJ (by decide) rfl rfl) ?_
        refine aq 140 rfl rfl rfl rfl (fun W' kk => ac bZ rfl (Bk.lh hbz kk) rfl) ?_
        refine aq 141 rfl rfl rfl rfl (fun W' kk => ak (j := 32) (bV rfl rfl) (by decide)) ?_
        refine bb 136 142 rfl rfl rfl rfl rfl (fun W' kk => dm 32 rfl rfl rfl (by decide)) ?_
        refine aq 143 rfl rfl rfl rfl (fun W' kk => aw (dY (by rw [aR]; rfl) aS rfl) (by rw [i2 Kl eO])) ?_
        refine bC 11 rfl rfl rfl rfl rfl ?_
        refine bb 4 146 rfl rfl rfl rfl rfl (fun W' kk => bG i aW bX rfl rfl (by omega) (by omega)) ?_
        refine aq 147 rfl rfl rfl rfl (fun W' kk => ac dJ rfl (Bk.lh hbw kk) (cq (by omega))) ?_
        refine dK [(114, _), (115, _), (120, _)] rfl rfl ⟨rfl, rfl, rfl, trivial⟩ rfl (a7 (vs := [_, _, _]) rfl (gj p _ _ _ _ _ _ _ _ _ _ _ _ _ _ _ _ _ _ _ _ _ X.e 6 11 25 (by decide) (by decide) (by decide) _ hbz)) ?_
        rintro _ w15 ⟨rfl, k11⟩
        refine ⟨k11, ?_⟩
        replace hbw := hbw.lh k11
        replace hbz := hbz.lh k11
        replace hbx := hbx.lh k11
        replace hB := hB.trans k11.weak
        refine bb 113 121 rfl rfl rfl rfl rfl (fun W' kk => cr rfl rfl) ?_
        refine bb 122 132 rfl rfl rfl rfl rfl (fun W' kk => cr rfl rfl) ?_
        refine bb 133 144 rfl rfl rfl rfl rfl (fun W' kk => cr rfl rfl) ?_
        refine bb 145 148 rfl rfl rfl rfl rfl (fun W' kk => cr rfl rfl) ?_
        refine cY ?_
        refine oga rfl rfl ?_
        refine aZ ?_
        refine ab [(10, _), (0, _), (4, _), (104, _), (105, _), (13, _), (14, _)] ⟨rfl, rfl, rfl, rfl, rfl, rfl, rfl, trivial⟩ ?_
        refine aY ?_
        refine cH 24 [0, 1, 2, 3, 4, 5, 6, 8, 9, 10, 11, 12, 13, 14, 15, 16, 17, 18, 19, 20, 21, 22, 7, 23] [7] [] mixed [(0, _), (13, _), (10, _), (4, _), (104, _), (105, _), (14, _)] ⟨rfl, rfl, rfl, rfl, rfl, rfl, rfl, trivial⟩ (by decide +kernel) rfl (fun w16 k12 => ?_)
        replace hbw := hbw.lh k12
        replace hbz := hbz.lh k12
        replace hbx := hbx.lh k12
        replace hB := hB.trans k12.weak
        refine bC 0 rfl rfl rfl rfl rfl ?_
        refine bC 13 rfl rfl rfl rfl rfl ?_
        refine bC 0 rfl rfl rfl rfl rfl ?_
        refine aq 152 rfl rfl rfl rfl (fun W' kk => ai rfl) ?_
        refine aq 153 rfl rfl rfl rfl (fun W' kk => aj 0 aH rfl eY (by decide) rfl rfl) ?_
        refine aq 154 rfl rfl rfl rfl (fun W' kk => aj 8 aM rfl gG (by decide) rfl rfl) ?_
        refine aq 155 rfl rfl rfl rfl (fun W' kk => an (cs' := [_, _, _]) ag94 gG rfl (Bk.lh hbz kk) rfl rfl) ?_
        refine bC 13 rfl rfl rfl rfl rfl ?_
        refine aq 10 rfl rfl rfl rfl (fun W' kk => bG 1 aF bX rfl rfl (by omega) (by omega)) ?_
        refine aq 159 rfl rfl rfl rfl (fun W' kk => ac dJ rfl (Bk.lh hbx kk) rfl) ?_
        refine bb 158 160 rfl rfl rfl rfl rfl (fun W' kk => gl rfl rfl) ?_
        refine bC 13 rfl rfl rfl rfl rfl ?_
        refine aq 10 rfl rfl rfl rfl (fun W' kk => bG 2 aF bX rfl rfl (by omega) (by omega)) ?_
        refine aq 163 rfl rfl rfl rfl (fun W' kk => ac dJ rfl (Bk.lh hbx kk) rfl) ?_
        refine bb 162 164 rfl rfl rfl rfl rfl (fun W' kk => gl rfl rfl) ?_
        refine bb 161 165 rfl rfl rfl rfl rfl (fun W' kk => fO rfl rfl) ?_
        refine aq 10 rfl rfl rfl rfl (fun W' kk => bG 1 aF bX rfl rfl (by omega) (by omega)) ?_
        refine aq 167 rfl rfl rfl rfl (fun W' kk => ac dJ rfl (Bk.lh hbx kk) rfl) ?_
        refine aq 10 rfl rfl rfl rfl (fun W' kk => bG 2 aF bX rfl rfl (by omega) (by omega)) ?_
        refine aq 169 rfl rfl rfl rfl (fun W' kk => ac dJ rfl (Bk.lh hbx kk) rfl) ?_
        refine bb 168 170 rfl rfl rfl rfl rfl (fun W' kk => gl rfl rfl) ?_
        refine bb 166 171 rfl rfl rfl rfl rfl (fun W' kk => fO rfl rfl) ?_
        refine dK [(150, _), (151, _), (156, _)] rfl rfl ⟨rfl, rfl, rfl, trivial⟩ rfl (a7 (vs := [_, _, _]) rfl (gj p _ _ _ _ _ _ _ _ _ _ _ _ _ _ _ _ _ _ _ _ _ X.a 2 13 22 (by decide) (by decide) (by decide) _ hbz)) ?_
        rintro _ w17 ⟨rfl, k13⟩
        refine ⟨k13, ?_⟩
        replace hbw := hbw.lh k13
        replace hbz := hbz.lh k13
        replace hbx := hbx.lh k13
        replace hB := hB.trans k13.weak
        refine bb 157 172 rfl rfl rfl rfl rfl (fun W' kk => cr rfl rfl) ?_
        refine cY ?_
        refine oga rfl rfl ?_
        refine aZ ?_
        refine ab [(0, _), (10, _), (4, _), (104, _), (105, _), (14, _), (15, _)] ⟨rfl, rfl, rfl, rfl, rfl, rfl, rfl, trivial⟩ ?_
        refine aY ?_
        refine kp 2 mixed (by decide +kernel) (fun w18 k14 => ?_)
        replace hbw := hbw.lh k14
        replace hbz := hbz.lh k14
        replace hbx := hbx.lh k14
        replace hB := hB.trans k14.weak
        refine dI (g_sla (l := 1) (h := 8) aF bX rfl (.inr ⟨_, _, rfl, rfl⟩) (.inl ⟨rfl, rfl⟩) (by decide) (by decide)) rfl ?_
        refine dI (g_sla (l := 0) (h := 7) aF bX rfl (.inl ⟨rfl, rfl⟩) (.inr ⟨_, _, rfl, rfl⟩) (by decide) (by decide)) rfl ?_
        refine gZ ?_
        refine ah (d_cpr (k := 7) Tryd.underlying117 bX rfl rfl hbx (by simp only [List.forall_mem_cons]; exact ⟨rfl, rfl, rfl, rfl, rfl, rfl, rfl, rfl, fun v hv => by cases hv⟩) rfl (Nat.le_of_ble_eq_true rfl) (Nat.le_of_ble_eq_true rfl)) rfl ?_
        rintro _ w19 ⟨rfl, hb6, k15, z6⟩
        replace hbw := hbw.keep k15 (nm ne_b1_b2)
        replace hbz := hbz.keep k15 (nm ne_p_b2)
        replace hB := hB.new k15 (nw ge_b2)
        clear z6
        replace hb6 : Bk w19 b2 102 [.int .u32 ((X.a).toNat : Int), .int .u32 ((X.a).toNat : Int), .int .u32 ((X.b).toNat : Int), .int .u32 ((X.c).toNat : Int), .int .u32 ((X.d).toNat : Int), .int .u32 ((X.e).toNat : Int), .int .u32 ((X.f).toNat : Int), .int .u32 ((X.g).toNat : Int)] := hb6
        refine aZ ?_
        refine aY ?_
        refine aX ?_
        refine a4 (bG 4 aF bX rfl rfl (by omega) (by omega)) rfl ?_
        refine a4 (ac dJ rfl hb6 rfl) rfl ?_
        refine ogm rfl rfl ?_
        refine a4 (cr rfl rfl) rfl ?_
        refine a4 (bG 4 aF bX rfl rfl (by omega) (by omega)) rfl ?_
        refine am (bQ bX rfl rfl rfl hb6 rfl) ?_
        rintro _ w20 ⟨hb7, k16, z7⟩
        replace hbw := hbw.keep k16 (nm ne_b1_b2)
        replace hbz := hbz.keep k16 (nm ne_p_b2)
        replace hB := hB.new k16 (nw ge_b2)
        clear z7
        replace hb7 : Bk w20 b2 _ [.int .u32 ((X.a).toNat : Int), .int .u32 ((X.a).toNat : Int), .int .u32 ((X.b).toNat : Int), .int .u32 ((X.c).toNat : Int), .int .u32 ((X.d + ((((X.h + (hi (6, 11, 25) X.e)) + ((X.e &&& X.f) ^^^ ((~~~X.e) &&& X.g))) + (cst 32 Kl i)) + ((sch bf bs 48).getD i 0))).toNat : Int), .int .u32 ((X.e).toNat : Int), .int .u32 ((X.f).toNat : Int), .int .u32 ((X.g).toNat : Int)] := hb7
        refine aZ ?_
        refine aX ?_
        refine ogm rfl rfl ?_
        refine ogm rfl rfl ?_
        refine a4 (cr rfl rfl) rfl ?_
        refine a4 (bG 0 aF bX rfl rfl (by omega) (by omega)) rfl ?_
        refine am (bQ bX rfl rfl rfl hb7 rfl) ?_
        rintro _ w21 ⟨hb8, k17, z8⟩
        replace hbw := hbw.keep k17 (nm ne_b1_b2)
        replace hbz := hbz.keep k17 (nm ne_p_b2)
        replace hB := hB.new k17 (nw ge_b2)
        clear z8
        replace hb8 : Bk w21 b2 _ [.int .u32 ((((((X.h + (hi (6, 11, 25) X.e)) + ((X.e &&& X.f) ^^^ ((~~~X.e) &&& X.g))) + (cst 32 Kl i)) + ((sch bf bs 48).getD i 0)) + ((hi (2, 13, 22) X.a) + (((X.a &&& X.b) ^^^ (X.a &&& X.c)) ^^^ (X.b &&& X.c)))).toNat : Int), .int .u32 ((X.a).toNat : Int), .int .u32 ((X.b).toNat : Int), .int .u32 ((X.c).toNat : Int), .int .u32 ((X.d + ((((X.h + (hi (6, 11, 25) X.e)) + ((X.e &&& X.f) ^^^ ((~~~X.e) &&& X.g))) + (cst 32 Kl i)) + ((sch bf bs 48).getD i 0))).toNat : Int), .int .u32 ((X.e).toNat : Int), .int .u32 ((X.f).toNat : Int), .int .u32 ((X.g).toNat : Int)] := hb8
        refine aZ ?_
        refine ab [(0, _), (10, _), (4, _), (104, _), (105, _)] ⟨rfl, rfl, rfl, rfl, rfl, trivial⟩ ?_
        refine bg ?_
        refine aX ?_
        refine a4 (br rfl rfl (by omega)) rfl ?_
        refine ogm rfl rfl ?_
        refine aZ ?_
        refine bd (Γ := Nat × S8 32) ⟨i + 1, rnd bf (cst 32 Kl i) ((sch bf bs 48).getD i 0) X⟩ ⟨rfl, rfl, rfl, rfl, rfl, trivial⟩ (by (try dsimp only); omega) (⟨by omega, by rw [hX]; rfl, hbw, hbz, hb8, hB⟩)
      · -- no
        refine bN rfl ?_
        refine aY ?_
        refine aX ?_
        refine ogm rfl rfl ?_
        refine aZ ?_
        refine ag ?_
        refine fD 9 ?_
        refine aY ?_
        refine aX ?_
        refine a4 (bO rfl rfl) rfl ?_
        refine aZ ?_
        refine aY ?_
        refine bj rfl (by decide) ?_
        refine a8 ?_
        refine aY ?_
        refine ag ?_
        refine aY ?_
        refine aX ?_
        refine ogm rfl rfl ?_
        refine oga rfl rfl ?_
        refine aZ ?_
        refine cR 12 [0, 1, 2, 3, 4, 5, 6, 7, 8, 9, 10, 11] [] [] [] mixed [(0, _), (16, _), (10, _), (187, _)] ⟨rfl, rfl, rfl, rfl, trivial⟩ (by decide +kernel) (by decide) (by decide) ?_ (fun x hx => by cases hx) rfl (fun w22 k18 => ?_)
        · intro q hq; cases hq
        replace hbz := hbz.lh k18
        replace hbx := hbx.lh k18
        replace hB := hB.trans k18.weak
        refine cM 0 rfl rfl rfl rfl rfl ?_
        refine cM 16 rfl rfl rfl rfl rfl ?_
        refine bY 190 rfl rfl rfl rfl (fun W' kk => ai rfl) ?_
        refine bY 192 rfl rfl rfl rfl (fun W' kk => aj 14 aH rfl cP (by decide) rfl rfl) ?_
        refine cZ 191 193 rfl rfl rfl rfl rfl (fun W' kk => bG (14 + 0) aF bX rfl rfl (by omega) (by omega)) ?_
        refine bY 194 rfl rfl rfl rfl (fun W' kk => ac dJ rfl (Bk.lh hbz kk) rfl) ?_
        refine cM 16 rfl rfl rfl rfl rfl ?_
        refine cZ 10 196 rfl rfl rfl rfl rfl (fun W' kk => bG 0 aF bX rfl rfl (by omega) (by omega)) ?_
        refine bY 197 rfl rfl rfl rfl (fun W' kk => ac dJ rfl (Bk.lh hbx kk) rfl) ?_
        refine cZ 195 198 rfl rfl rfl rfl rfl (fun W' kk => cr rfl rfl) ?_
        refine bY 190 rfl rfl rfl rfl (fun W' kk => ai rfl) ?_
        refine bY 200 rfl rfl rfl rfl (fun W' kk => aj 14 aH rfl cP (by decide) rfl rfl) ?_
        refine dc (fun w23 k19 => ?_)
        replace hbz := hbz.lh k19
        replace hbx := hbx.lh k19
        replace hB := hB.trans k19.weak
        refine cT ?_
        refine a4 (bG (14 + 0) aF bX rfl rfl (by omega) (by omega)) rfl ?_
        refine am (bQ bX rfl rfl rfl hbz rfl) ?_
        rintro _ w24 ⟨hb9, k20, z9⟩
        replace hbx := hbx.keep k20 (nm (Ne.symm ne_p_b2))
        replace hB := hB.trans k20
        clear z9
        replace hb9 : Bk w24 p _ [.int .i64 32, .int .i64 64, .int .i64 7, .int .i64 18, .int .i64 3, .int .i64 17, .int .i64 19, .int .i64 10, .int .i64 2, .int .i64 13, .int .i64 22, .int .i64 6, .int .i64 11, .int .i64 25, .int .u32 ((s.a + X.a).toNat : Int), .int .u32 ((s.b).toNat : Int), .int .u32 ((s.c).toNat : Int), .int .u32 ((s.d).toNat : Int), .int .u32 ((s.e).toNat : Int), .int .u32 ((s.f).toNat : Int), .int .u32 ((s.g).toNat : Int), .int .u32 ((s.h).toNat : Int)] := hb9
        refine aZ ?_
        refine ab [(0, _), (10, _), (187, _)] ⟨rfl, rfl, rfl, trivial⟩ ?_
        refine bg ?_
        refine aX ?_
        refine a4 (ak (j := 1) (bk rfl rfl) (by decide)) rfl ?_
        refine ogm rfl rfl ?_
        refine aZ ?_
        refine cW ?_
        refine aY ?_
        refine aX ?_
        refine a4 (bO rfl rfl) rfl ?_
        refine aZ ?_
        refine aY ?_
        refine bj rfl (by decide) ?_
        refine a8 ?_
        refine aY ?_
        refine ag ?_
        refine aY ?_
        refine aX ?_
        refine ogm rfl rfl ?_
        refine oga rfl rfl ?_
        refine aZ ?_
        refine cR 12 [0, 1, 2, 3, 4, 5, 6, 7, 8, 9, 10, 11] [] [] [] mixed [(0, _), (16, _), (10, _), (187, _)] ⟨rfl, rfl, rfl, rfl, trivial⟩ (by decide +kernel) (by decide) (by decide) ?_ (fun x hx => by cases hx) rfl (fun w25 k21 => ?_)
        · intro q hq; cases hq
        replace hbx := hbx.lh k21
        replace hb9 := hb9.lh k21
        replace hB := hB.trans k21.weak
        refine cM 0 rfl rfl rfl rfl rfl ?_
        refine cM 16 rfl rfl rfl rfl rfl ?_
        refine bY 190 rfl rfl rfl rfl (fun W' kk => ai rfl) ?_
        refine bY 192 rfl rfl rfl rfl (fun W' kk => aj 14 aH rfl cP (by decide) rfl rfl) ?_
        refine cZ 191 193 rfl rfl rfl rfl rfl (fun W' kk => bG (14 + 1) aF bX rfl rfl (by omega) (by omega)) ?_
        refine bY 194 rfl rfl rfl rfl (fun W' kk => ac dJ rfl (Bk.lh hb9 kk) rfl) ?_
        refine cM 16 rfl rfl rfl rfl rfl ?_
        refine cZ 10 196 rfl rfl rfl rfl rfl (fun W' kk => bG 1 aF bX rfl rfl (by omega) (by omega)) ?_
        refine bY 197 rfl rfl rfl rfl (fun W' kk => ac dJ rfl (Bk.lh hbx kk) rfl) ?_
        refine cZ 195 198 rfl rfl rfl rfl rfl (fun W' kk => cr rfl rfl) ?_
        refine bY 190 rfl rfl rfl rfl (fun W' kk => ai rfl) ?_
        refine bY 200 rfl rfl rfl rfl (fun W' kk => aj 14 aH rfl cP (by decide) rfl rfl) ?_
        refine dc (fun w26 k22 => ?_)
        replace hbx := hbx.lh k22
        replace hb9 := hb9.lh k22
        replace hB := hB.trans k22.weak
        refine cT ?_
        refine a4 (bG (14 + 1) aF bX rfl rfl (by omega) (by omega)) rfl ?_
        refine am (bQ bX rfl rfl rfl hb9 rfl) ?_
        rintro _ w27 ⟨hb10, k23, z10⟩
        replace hbx := hbx.keep k23 (nm (Ne.symm ne_p_b2))
        replace hB := hB.trans k23
        clear z10
        replace hb10 : Bk w27 p _ [.int .i64 32, .int .i64 64, .int .i64 7, .int .i64 18, .int .i64 3, .int .i64 17, .int .i64 19, .int .i64 10, .int .i64 2, .int .i64 13, .int .i64 22, .int .i64 6, .int .i64 11, .int .i64 25, .int .u32 ((s.a + X.a).toNat : Int), .int .u32 ((s.b + X.b).toNat : Int), .int .u32 ((s.c).toNat : Int), .int .u32 ((s.d).toNat : Int), .int .u32 ((s.e).toNat : Int), .int .u32 ((s.f).toNat : Int), .int .u32 ((s.g).toNat : Int), .int .u32 ((s.h).toNat : Int)] := hb10
        refine aZ ?_
        refine ab [(0, _), (10, _), (187, _)] ⟨rfl, rfl, rfl, trivial⟩ ?_
        refine bg ?_
        refine aX ?_
        refine a4 (ak (j := 2) (bk rfl rfl) (by decide)) rfl ?_
        refine ogm rfl rfl ?_
        refine aZ ?_
        refine cW ?_
        refine aY ?_
        refine aX ?_
        refine a4 (bO rfl rfl) rfl ?_
        refine aZ ?_
        refine aY ?_
        refine bj rfl (by decide) ?_
        refine a8 ?_
        refine aY ?_
        refine ag ?_
        refine aY ?_
        refine aX ?_
        refine ogm rfl rfl ?_
        refine oga rfl rfl ?_
        refine aZ ?_
        refine cR 12 [0, 1, 2, 3, 4, 5, 6, 7, 8, 9, 10, 11] [] [] [] mixed [(0, _), (16, _), (10, _), (187, _)] ⟨rfl, rfl, rfl, rfl, trivial⟩ (by decide +kernel) (by decide) (by decide) ?_ (fun x hx => by cases hx) rfl (fun w28 k24 => ?_)
        · intro q hq; cases hq
        replace hbx := hbx.lh k24
        replace hb10 := hb10.lh k24
        replace hB := hB.trans k24.weak
        refine cM 0 rfl rfl rfl rfl rfl ?_
        refine cM 16 rfl rfl rfl rfl rfl ?_
        refine bY 190 rfl rfl rfl rfl (fun W' kk => ai rfl) ?_
        refine bY 192 rfl rfl rfl rfl (fun W' kk => aj 14 aH rfl cP (by decide) rfl rfl) ?_
        refine cZ 191 193 rfl rfl rfl rfl rfl (fun W' kk => bG (14 + 2) aF bX rfl rfl (by omega) (by omega)) ?_
        refine bY 194 rfl rfl rfl rfl (fun W' kk => ac dJ rfl (Bk.lh hb10 kk) rfl) ?_
        refine cM 16 rfl rfl rfl rfl rfl ?_
        refine cZ 10 196 rfl rfl rfl rfl rfl (fun W' kk => bG 2 aF bX rfl rfl (by omega) (by omega)) ?_
        refine bY 197 rfl rfl rfl rfl (fun W' kk => ac dJ rfl (Bk.lh hbx kk) rfl) ?_
        refine cZ 195 198 rfl rfl rfl rfl rfl (fun W' kk => cr rfl rfl) ?_
        refine bY 190 rfl rfl rfl rfl (fun W' kk => ai rfl) ?_
        refine bY 200 rfl rfl rfl rfl (fun W' kk => aj 14 aH rfl cP (by decide) rfl rfl) ?_
        refine dc (fun w29 k25 => ?_)
        replace hbx := hbx.lh k25
        replace hb10 := hb10.lh k25
        replace hB := hB.trans k25.weak
        refine cT ?_
        refine a4 (bG (14 + 2) aF bX rfl rfl (by omega) (by omega)) rfl ?_
        refine am (bQ bX rfl rfl rfl hb10 rfl) ?_
        rintro _ w30 ⟨hb11, k26, z11⟩
        replace hbx := hbx.keep k26 (nm (Ne.symm ne_p_b2))
        replace hB := hB.trans k26
        clear z11
        replace hb11 : Bk w30 p _ [.int .i64 32, .int .i64 64, .int .i64 7, .int .i64 18, .int .i64 3, .int .i64 17, .int .i64 19, .int .i64 10, .int .i64 2, .int .i64 13, .int .i64 22, .int .i64 6, .int .i64 11, .int .i64 25, .int .u32 ((s.a + X.a).toNat : Int), .int .u32 ((s.b + X.b).toNat : Int), .int .u32 ((s.c + X.c).toNat : Int), .int .u32 ((s.d).toNat : Int), .int .u32 ((s.e).toNat : Int), .int .u32 ((s.f).toNat : Int), .int .u32 ((s.g).toNat : Int), .int .u32 ((s.h).toNat : Int)] := hb11
        refine aZ ?_
        refine ab [(0, _), (10, _), (187, _)] ⟨rfl, rfl, rfl, trivial⟩ ?_
        refine bg ?_
        refine aX ?_
        refine a4 (ak (j := 3) (bk rfl rfl) (by decide)) rfl ?_
        refine ogm rfl rfl ?_
        refine aZ ?_
        refine cW ?_
        refine aY ?_
        refine aX ?_
        refine a4 (bO rfl rfl) rfl ?_
        refine aZ ?_
        refine aY ?_
        refine bj rfl (by decide) ?_
        refine a8 ?_
        refine aY ?_
        refine ag ?_
        refine aY ?_
        refine aX ?_
        refine ogm rfl rfl ?_
        refine oga rfl rfl ?_
        refine aZ ?_
        refine cR 12 [0, 1, 2, 3, 4, 5, 6, 7, 8, 9, 10, 11] [] [] [] mixed [(0, _), (16, _), (10, _), (187, _)] ⟨rfl, rfl, rfl, rfl, trivial⟩ (by decide +kernel) (by decide) (by decide) ?_ (fun x hx => by cases hx) rfl (fun w31 k27 => ?_)
        · intro q hq; cases hq
        replace hbx := hbx.lh k27
        replace hb11 := hb11.lh k27
        replace hB := hB.trans k27.weak
        refine cM 0 rfl rfl rfl rfl rfl ?_
        refine cM 16 rfl rfl rfl rfl rfl ?_
        refine bY 190 rfl rfl rfl rfl (fun W' kk => ai rfl) ?_
        refine bY 192 rfl rfl rfl rfl (fun W' kk => aj 14 aH rfl cP (by decide) rfl rfl) ?_
        refine cZ 191 193 rfl rfl rfl rfl rfl (fun W' kk => bG (14 + 3) aF bX rfl rfl (by omega) (by omega)) ?_
        refine bY 194 rfl rfl rfl rfl (fun W' kk => ac dJ rfl (Bk.lh hb11 kk) rfl) ?_
        refine cM 16 rfl rfl rfl rfl rfl ?_
        refine cZ 10 196 rfl rfl rfl rfl rfl (fun W' kk => bG 3 aF bX rfl rfl (by omega) (by omega)) ?_
        refine bY 197 rfl rfl rfl rfl (fun W' kk => ac dJ rfl (Bk.lh hbx kk) rfl) ?_
        refine cZ 195 198 rfl rfl rfl rfl rfl (fun W' kk => cr rfl rfl) ?_
        refine bY 190 rfl rfl rfl rfl (fun W' kk => ai rfl) ?_
        refine bY 200 rfl rfl rfl rfl (fun W' kk => aj 14 aH rfl cP (by decide) rfl rfl) ?_
        refine dc (fun w32 k28 => ?_)
        replace hbx := hbx.lh k28
        replace hb11 := hb11.lh k28
        replace hB := hB.trans k28.weak
        refine cT ?_
        refine a4 (bG (14 + 3) aF bX rfl rfl (by omega) (by omega)) rfl ?_
        refine am (bQ bX rfl rfl rfl hb11 rfl) ?_
        rintro _ w33 ⟨hb12, k29, z12⟩
        replace hbx := hbx.keep k29 (nm (Ne.symm ne_p_b2))
        replace hB := hB.trans k29
        clear z12
        replace hb12 : Bk w33 p _ [.int .i64 32, .int .i64 64, .int .i64 7, .int .i64 18, .int .i64 3, .int .i64 17, .int .i64 19, .int .i64 10, .int .i64 2, .int .i64 13, .int .i64 22, .int .i64 6, .int .i64 11, .int .i64 25, .int .u32 ((s.a + X.a).toNat : Int), .int .u32 ((s.b + X.b).toNat : Int), .int .u32 ((s.c + X.c).toNat : Int), .int .u32 ((s.d + X.d).toNat : Int), .int .u32 ((s.e).toNat : Int), .int .u32 ((s.f).toNat : Int), .int .u32 ((s.g).toNat : Int), .int .u32 ((s.h).toNat : Int)] := hb12
        refine aZ ?_
        refine ab [(0, _), (10, _), (187, _)] ⟨rfl, rfl, rfl, trivial⟩ ?_
        refine bg ?_
        refine aX ?_
        refine a4 (ak (j := 4) (bk rfl rfl) (by decide)) rfl ?_
        refine ogm rfl rfl ?_
        refine aZ ?_
        refine cW ?_
        refine aY ?_
        refine aX ?_
        refine a4 (bO rfl rfl) rfl ?_
        refine aZ ?_
        refine aY ?_
        refine bj rfl (by decide) ?_
        refine a8 ?_
        refine aY ?_
        refine ag ?_
        refine aY ?_
        refine aX ?_
        refine ogm rfl rfl ?_
        refine oga rfl rfl ?_
        refine aZ ?_
        refine cR 12 [0, 1, 2, 3, 4, 5, 6, 7, 8, 9, 10, 11] [] [] [] mixed [(0, _), (16, _), (10, _), (187, _)] ⟨rfl, rfl, rfl, rfl, trivial⟩ (by decide +kernel) (by decide) (by decide) ?_ (fun x hx => by cases hx) rfl (fun w34 k30 => ?_)
        · intro q hq; cases hq
        replace hbx := hbx.lh k30
        replace hb12 := hb12.lh k30
        replace hB := hB.trans k30.weak
        refine cM 0 rfl rfl rfl rfl rfl ?_
        refine cM 16 rfl rfl rfl rfl rfl ?_
        refine bY 190 rfl rfl rfl rfl (fun W' kk => ai rfl) ?_
        refine bY 192 rfl rfl rfl rfl (fun W' kk => aj 14 aH rfl cP (by decide) rfl rfl) ?_
        refine cZ 191 193 rfl rfl rfl rfl rfl (fun W' kk => bG (14 + 4) aF bX rfl rfl (by omega) (by omega)) ?_
        refine bY 194 rfl rfl rfl rfl (fun W' kk => ac dJ rfl (Bk.lh hb12 kk) rfl) ?_
        refine cM 16 rfl rfl rfl rfl rfl ?_
        refine cZ 10 196 rfl rfl rfl rfl rfl (fun W' kk => bG 4 aF bX rfl rfl (by omega) (by omega)) ?_
        refine bY 197 rfl rfl rfl rfl (fun W' kk => ac dJ rfl (Bk.lh hbx kk) rfl) ?_
        refine cZ 195 198 rfl rfl rfl rfl rfl (fun W' kk => cr rfl rfl) ?_
        refine bY 190 rfl rfl rfl rfl (fun W' kk => ai rfl) ?_
        refine bY 200 rfl rfl rfl rfl (fun W' kk => aj 14 aH rfl cP (by decide) rfl rfl) ?_
        refine dc (fun w35 k31 => ?_)
        replace hbx := hbx.lh k31
        replace hb12 := hb12.lh k31
        replace hB := hB.trans k31.weak
        refine cT ?_
        refine a4 (bG (14 + 4) aF bX rfl rfl (by omega) (by omega)) rfl ?_
        refine am (bQ bX rfl rfl rfl hb12 rfl) ?_
        rintro _ w36 ⟨hb13, k32, z13⟩
        replace hbx := hbx.keep k32 (nm (Ne.symm ne_p_b2))
        replace hB := hB.trans k32
        clear z13
        replace hb13 : Bk w36 p _ [.int .i64 32, .int .i64 64, .int .i64 7, .int .i64 18, .int .i64 3, .int .i64 17, .int .i64 19, .int .i64 10, .int .i64 2, .int .i64 13, .int .i64 22, .int .i64 6, .int .i64 11, .int .i64 25, .int .u32 ((s.a + X.a).toNat : Int), .int .u32 ((s.b + X.b).toNat : Int), .int .u32 ((s.c + X.c).toNat : Int), .int .u32 ((s.d + X.d).toNat : Int), .int .u32 ((s.e + X.e).toNat : Int), .int .u32 ((s.f).toNat : Int), .int .u32 ((s.g).toNat : Int), .int .u32 ((s.h).toNat : Int)] := hb13
        refine aZ ?_
        refine ab [(0, _), (10, _), (187, _)] ⟨rfl, rfl, rfl, trivial⟩ ?_
        refine bg ?_
        refine aX ?_
        refine a4 (ak (j := 5) (bk rfl rfl) (by decide)) rfl ?_
        refine ogm rfl rfl ?_
        refine aZ ?_
        refine cW ?_
        refine aY ?_
        refine aX ?_
        refine a4 (bO rfl rfl) rfl ?_
        refine aZ ?_
        refine aY ?_
        refine bj rfl (by decide) ?_
        refine a8 ?_
        refine aY ?_
        refine ag ?_
        refine aY ?_
        refine aX ?_
        refine ogm rfl rfl ?_
        refine oga rfl rfl ?_
        refine aZ ?_
        refine cR 12 [0, 1, 2, 3, 4, 5, 6, 7, 8, 9, 10, 11] [] [] [] mixed [(0, _), (16, _), (10, _), (187, _)] ⟨rfl, rfl, rfl, rfl, trivial⟩ (by decide +kernel) (by decide) (by decide) ?_ (fun x hx => by cases hx) rfl (fun w37 k33 => ?_)
        · intro q hq; cases hq
        replace hbx := hbx.lh k33
        replace hb13 := hb13.lh k33
        replace hB := hB.trans k33.weak
        refine cM 0 rfl rfl rfl rfl rfl ?_
        refine cM 16 rfl rfl rfl rfl rfl ?_
        refine bY 190 rfl rfl rfl rfl (fun W' kk => ai rfl) ?_
        refine bY 192 rfl rfl rfl rfl (fun W' kk => aj 14 aH rfl cP (by decide) rfl rfl) ?_
        refine cZ 191 193 rfl rfl rfl rfl rfl (fun W' kk => bG (14 + 5) aF bX rfl rfl (by omega) (by omega)) ?_
        refine bY 194 rfl rfl rfl rfl (fun W' kk => ac dJ rfl (Bk.lh hb13 kk) rfl) ?_
        refine cM 16 rfl rfl rfl rfl rfl ?_
        refine cZ 10 196 rfl rfl rfl rfl rfl (fun W' kk => bG 5 aF bX rfl rfl (by omega) (by omega)) ?_
        refine bY 197 rfl rfl rfl rfl (fun W' kk => ac dJ rfl (Bk.lh hbx kk) rfl) ?_
        refine cZ 195 198 rfl rfl rfl rfl rfl (fun W' kk => cr rfl rfl) ?_
        refine bY 190 rfl rfl rfl rfl (fun W' kk => ai rfl) ?_
        refine bY 200 rfl rfl rfl rfl (fun W' kk => aj 14 aH rfl cP (by decide) rfl rfl) ?_
        refine dc (fun w38 k34 => ?_)
        replace hbx := hbx.lh k34
        replace hb13 := hb13.lh k34
        replace hB := hB.trans k34.weak
        refine cT ?_
        refine a4 (bG (14 + 5) aF bX rfl rfl (by omega) (by omega)) rfl ?_
        refine am (bQ bX rfl rfl rfl hb13 rfl) ?_
        rintro _ w39 ⟨hb14, k35, z14⟩
        replace hbx := hbx.keep k35 (nm (Ne.symm ne_p_b2))
        replace hB := hB.trans k35
        clear z14
        replace hb14 : Bk w39 p _ [.int .i64 32, .int .i64 64, .int .i64 7, .int .i64 18, .int .i64 3, .int .i64 17, .int .i64 19, .int .i64 10, .int .i64 2, .int .i64 13, .int .i64 22, .int .i64 6, .int .i64 11, .int .i64 25, .int .u32 ((s.a + X.a).toNat : Int), .int .u32 ((s.b + X.b).toNat : Int), .int .u32 ((s.c + X.c).toNat : Int), .int .u32 ((s.d + X.d).toNat : Int), .int .u32 ((s.e + X.e).toNat : Int), .int .u32 ((s.f + X.f).toNat : Int), .int .u32 ((s.g).toNat : Int), .int .u32 ((s.h).toNat : Int)] := hb14
        refine aZ ?_
        refine ab [(0, _), (10, _), (187, _)] ⟨rfl, rfl, rfl, trivial⟩ ?_
        refine bg ?_
        refine aX ?_
        refine a4 (ak (j := 6) (bk rfl rfl) (by decide)) rfl ?_
        refine ogm rfl rfl ?_
        refine aZ ?_
        refine cW ?_
        refine aY ?_
        refine aX ?_
        refine a4 (bO rfl rfl) rfl ?_
        refine aZ ?_
        refine aY ?_
        refine bj rfl (by decide) ?_
        refine a8 ?_
        refine aY ?_
        refine ag ?_
        refine aY ?_
        refine aX ?_
        refine ogm rfl rfl ?_
        refine oga rfl rfl ?_
        refine aZ ?_
        refine cR 12 [0, 1, 2, 3, 4, 5, 6, 7, 8, 9, 10, 11] [] [] [] mixed [(0, _), (16, _), (10, _), (187, _)] ⟨rfl, rfl, rfl, rfl, trivial⟩ (by decide +kernel) (by decide) (by decide) ?_ (fun x hx => by cases hx) rfl (fun w40 k36 => ?_)
        · intro q hq; cases hq
        replace hbx := hbx.lh k36
        replace hb14 := hb14.lh k36
        replace hB := hB.trans k36.weak
        refine cM 0 rfl rfl rfl rfl rfl ?_
        refine cM 16 rfl rfl rfl rfl rfl ?_
        refine bY 190 rfl rfl rfl rfl (fun W' kk => ai rfl) ?_
        refine bY 192 rfl rfl rfl rfl (fun W' kk => aj 14 aH rfl cP (by decide) rfl rfl) ?_
        refine cZ 191 193 rfl rfl rfl rfl rfl (fun W' kk => bG (14 + 6) aF bX rfl rfl (by omega) (by omega)) ?_
        refine bY 194 rfl rfl rfl rfl (fun W' kk => ac dJ rfl (Bk.lh hb14 kk) rfl) ?_
        refine cM 16 rfl rfl rfl rfl rfl ?_
        refine cZ 10 196 rfl rfl rfl rfl rfl (fun W' kk => bG 6 aF bX rfl rfl (by omega) (by omega)) ?_
        refine bY 197 rfl rfl rfl rfl (fun W' kk => ac dJ rfl (Bk.lh hbx kk) rfl) ?_
        refine cZ 195 198 rfl rfl rfl rfl rfl (fun W' kk => cr rfl rfl) ?_
        refine bY 190 rfl rfl rfl rfl (fun W' kk => ai rfl) ?_
        refine bY 200 rfl rfl rfl rfl (fun W' kk => aj 14 aH rfl cP (by decide) rfl rfl) ?_
        refine dc (fun w41 k37 => ?_)
        replace hbx := hbx.lh k37
        replace hb14 := hb14.lh k37
        replace hB := hB.trans k37.weak
        refine cT ?_
        refine a4 (bG (14 + 6) aF bX rfl rfl (by omega) (by omega)) rfl ?_
        refine am (bQ bX rfl rfl rfl hb14 rfl) ?_
        rintro _ w42 ⟨hb15, k38, z15⟩
        replace hbx := hbx.keep k38 (nm (Ne.symm ne_p_b2))
        replace hB := hB.trans k38
        clear z15
        replace hb15 : Bk w42 p _ [.int .i64 32, .int .i64 64, .int .i64 7, .int .i64 18, .int .i64 3, .int .i64 17, .int .i64 19, .int .i64 10, .int .i64 2, .int .i64 13, .int .i64 22, .int .i64 6, .int .i64 11, .int .i64 25, .int .u32 ((s.a + X.a).toNat : Int), .int .u32 ((s.b + X.b).toNat : Int), .int .u32 ((s.c + X.c).toNat : Int), .int .u32 ((s.d + X.d).toNat : Int), .int .u32 ((s.e + X.e).toNat : Int), .int .u32 ((s.f + X.f).toNat : Int), .int .u32 ((s.g + X.g).toNat : Int), .int .u32 ((s.h).toNat : Int)] := hb15
        refine aZ ?_
        refine ab [(0, _), (10, _), (187, _)] ⟨rfl, rfl, rfl, trivial⟩ ?_
        refine bg ?_
        refine aX ?_
        refine a4 (ak (j := 7) (bk rfl rfl) (by decide)) rfl ?_
        refine ogm rfl rfl ?_
        refine aZ ?_
        refine cW ?_
        refine aY ?_
        refine aX ?_
        refine a4 (bO rfl rfl) rfl ?_
        refine aZ ?_
        refine aY ?_
        refine bj rfl (by decide) ?_
        refine a8 ?_
        refine aY ?_
        refine ag ?_
        refine aY ?_
        refine aX ?_
        refine ogm rfl rfl ?_
        refine oga rfl rfl ?_
        refine aZ ?_
        refine cR 12 [0, 1, 2, 3, 4, 5, 6, 7, 8, 9, 10, 11] [] [] [] mixed [(0, _), (16, _), (10, _), (187, _)] ⟨rfl, rfl, rfl, rfl, trivial⟩ (by decide +kernel) (by decide) (by decide) ?_ (fun x hx => by cases hx) rfl (fun w43 k39 => ?_)
        · intro q hq; cases hq
        replace hbx := hbx.lh k39
        replace hb15 := hb15.lh k39
        replace hB := hB.trans k39.weak
        refine cM 0 rfl rfl rfl rfl rfl ?_
        refine cM 16 rfl rfl rfl rfl rfl ?_
        refine bY 190 rfl rfl rfl rfl (fun W' kk => ai rfl) ?_
        refine bY 192 rfl rfl rfl rfl (fun W' kk => aj 14 aH rfl cP (by decide) rfl rfl) ?_
        refine cZ 191 193 rfl rfl rfl rfl rfl (fun W' kk => bG (14 + 7) aF bX rfl rfl (by omega) (by omega)) ?_
        refine bY 194 rfl rfl rfl rfl (fun W' kk => ac dJ rfl (Bk.lh hb15 kk) rfl) ?_
        refine cM 16 rfl rfl rfl rfl rfl ?_
        refine cZ 10 196 rfl rfl rfl rfl rfl (fun W' kk => bG 7 aF bX rfl rfl (by omega) (by omega)) ?_
        refine bY 197 rfl rfl rfl rfl (fun W' kk => ac dJ rfl (Bk.lh hbx kk) rfl) ?_
        refine cZ 195 198 rfl rfl rfl rfl rfl (fun W' kk => cr rfl rfl) ?_
        refine bY 190 rfl rfl rfl rfl (fun W' kk => ai rfl) ?_
        refine bY 200 rfl rfl rfl rfl (fun W' kk => aj 14 aH rfl cP (by decide) rfl rfl) ?_
        refine dc (fun w44 k40 => ?_)
        replace hb15 := hb15.lh k40
        replace hB := hB.trans k40.weak
        refine cT ?_
        refine a4 (bG (14 + 7) aF bX rfl rfl (by omega) (by omega)) rfl ?_
        refine am (bQ bX rfl rfl rfl hb15 rfl) ?_
        rintro _ w45 ⟨hb16, k41, z16⟩
        replace hB := hB.trans k41
        clear z16
        replace hb16 : Bk w45 p _ [.int .i64 32, .int .i64 64, .int .i64 7, .int .i64 18, .int .i64 3, .int .i64 17, .int .i64 19, .int .i64 10, .int .i64 2, .int .i64 13, .int .i64 22, .int .i64 6, .int .i64 11, .int .i64 25, .int .u32 ((s.a + X.a).toNat : Int), .int .u32 ((s.b + X.b).toNat : Int), .int .u32 ((s.c + X.c).toNat : Int), .int .u32 ((s.d + X.d).toNat : Int), .int .u32 ((s.e + X.e).toNat : Int), .int .u32 ((s.f + X.f).toNat : Int), .int .u32 ((s.g + X.g).toNat : Int), .int .u32 ((s.h + X.h).toNat : Int)] := hb16
        refine aZ ?_
        refine ab [(0, _), (10, _), (187, _)] ⟨rfl, rfl, rfl, trivial⟩ ?_
        refine bg ?_
        refine aX ?_
        refine a4 (ak (j := 8) (bk rfl rfl) (by decide)) rfl ?_
        refine ogm rfl rfl ?_
        refine aZ ?_
        refine cW ?_
        refine aY ?_
        refine aX ?_
        refine a4 (bO rfl rfl) rfl ?_
        refine aZ ?_
        refine aY ?_
        refine co rfl (by decide) ?_
        refine bN rfl ?_
        refine tw_end0 hfin Tryd.results81 ?_
        obtain rfl : i = 64 := by omega
        subst hX
        exact ⟨rfl, hb16, hB⟩
theorem jN {v : Value} {l h s : Nat} {x : Nat} (hx : x ∈ vblk (cut v l h s)) : x ∈ vblk v := by
 cases v with
 | slice a n c =>
   cases a with
   | none => simp [cut, vblk] at hx
   | some a =>
     simp only [cut] at hx
     split at hx
     · exact hx
     · simp only [Option.map_some, vblk, List.mem_singleton] at hx ⊢
       rw [hx]; unfold Addr.add; split <;> rfl
 | _ => exact hx
theorem kB (v : Value) (xs : List UInt8) (w : World) (hT : Tabs w) (hv : RdB w v xs) (hx : xs.length ≤ 140737488354000) : Rets Tryd.prog 73 [.agg [.int .i64 32, .int .i64 64, .int .i64 7, .int .i64 18, .int .i64 3, .int .i64 17, .int .i64 19, .int .i64 10, .int .i64 2, .int .i64 13, .int .i64 22, .int .i64 6, .int .i64 11, .int .i64 25].toArray, v] w (fun r w' => OwnB w' w.heap.size r (Sha.sum bf Kl Hl xs) ∧ Keep [] w w') := by
 have hB : Keep [] w w := Keep.refl _ _
 have hz := gJ (n := 32) (len := xs.length) (by decide) (by decide)
 refine ad Tryd.func73 rfl (by decide) Tryd.ntmps73 rfl (fun fin _ hfin => ?_)
 refine aY (aX (ah (bz (cs := [.int .i64 32, .int .i64 64, .int .i64 7, .int .i64 18, .int .i64 3, .int .i64 17, .int .i64 19, .int .i64 10, .int .i64 2, .int .i64 13, .int .i64 22, .int .i64 6, .int .i64 11, .int .i64 25]) rfl rfl) rfl ?_))
 rintro _ w1 ⟨b1, rfl, eb1, hb1, k1, z1⟩
 have ge_b1 : w.heap.size ≤ b1 := by have := hB.size; omega
 replace hB := hB.trans k1
 clear eb1 z1
 refine oga rfl rfl (aZ (aY (aX (a4 (an (cs' := [_, _, _, _, _, _, _, _, _, _, _, _, _, _]) ag96 eY rfl hb1 rfl rfl) rfl ?_))))
 refine ah (a7 (vs := [_]) rfl (gf _ (hT.lh hB))) rfl ?_
 rintro _ w2 ⟨rfl, k2⟩
 replace hb1 := hb1.lh k2
 replace hB := hB.trans k2
 refine ah (cI fV) rfl ?_
 rintro _ w3 ⟨b2, rfl, eb2, hb2, k3, z2⟩
 have ge_b2 : w.heap.size ≤ b2 := by have := hB.size; omega
 have ne_b1_b2 : b1 ≠ b2 := by have := hb1.lt; omega
 replace hb1 := hb1.lh k3
 replace hB := hB.trans k3
 clear eb2 z2
 refine am (bU fV rfl rfl rfl (by simp only [List.forall_mem_cons]; refine ⟨rfl, rfl, rfl, rfl, rfl, rfl, rfl, rfl, rfl, rfl, rfl, rfl, rfl, rfl, rfl, rfl, rfl, rfl, rfl, rfl, rfl, rfl, fun v hv => by cases hv⟩) hb2 rfl) ?_
 rintro _ w4 ⟨hb3, k4, z3⟩
 replace hb1 := hb1.keep k4 (nm ne_b1_b2)
 replace hB := hB.new k4 (nw ge_b2)
 clear z3
 replace hb3 : Bk w4 b2 _ [.int .i64 32, .int .i64 64, .int .i64 7, .int .i64 18, .int .i64 3, .int .i64 17, .int .i64 19, .int .i64 10, .int .i64 2, .int .i64 13, .int .i64 22, .int .i64 6, .int .i64 11, .int .i64 25, .int .u32 ((cst 32 Hl 0).toNat : Int), .int .u32 ((cst 32 Hl 1).toNat : Int), .int .u32 ((cst 32 Hl 2).toNat : Int), .int .u32 ((cst 32 Hl 3).toNat : Int), .int .u32 ((cst 32 Hl 4).toNat : Int), .int .u32 ((cst 32 Hl 5).toNat : Int), .int .u32 ((cst 32 Hl 6).toNat : Int), .int .u32 ((cst 32 Hl 7).toNat : Int)] := hb3
 refine aZ (aY (aX (a4 (aj 0 aM rfl bJ (by decide) rfl rfl) rfl ?_)))
 refine a4 (ac bZ rfl hb1 rfl) rfl ?_
 refine a4 (ak (j := 64) (cJ rfl rfl) (by decide)) rfl ?_
 refine oga rfl rfl (aZ (aY (aX (ogm rfl rfl (a4 (bI aA rfl (by first | assumption | exact Own.rd ‹_› | exact Rd.lh ‹_› hB | exact Own.rd (Own.lh ‹_› hB))) rfl ?_)))))
 refine a4 (aw (v' := .int .u64 (xs.length : Int)) (dY (by rw [aK]; rfl) aR rfl) (by rw [eW, Int.emod_eq_of_lt (by omega) (by omega)])) rfl ?_
 refine a4 (aw (v' := .int .u64 (8 * (xs.length : Int))) (cJ rfl rfl) (by rw [eW, Int.emod_eq_of_lt (by omega) (by omega), Int.mul_comm])) rfl ?_
 refine oga rfl rfl (aZ (ab [(1, _), (2, _), (5, _), (6, _), (7, _)] ⟨rfl, rfl, rfl, rfl, rfl, trivial⟩ ?_))
 refine aY (aX (ogm rfl rfl (ogm rfl rfl (a4 (bI aA rfl (by first | assumption | exact Own.rd ‹_› | exact Rd.lh ‹_› hB | exact Own.rd (Own.lh ‹_› hB))) rfl ?_))))
 refine ogm rfl rfl (a4 (bI aA rfl (by first | assumption | exact Own.rd ‹_› | exact Rd.lh ‹_› hB | exact Own.rd (Own.lh ‹_› hB))) rfl ?_)
 obtain ⟨A, cp, hve, _⟩ := id hv
 obtain ⟨u, hu⟩ : ∃ u, u = Value.slice (if ((xs.length : Int)).toNat = 0 then A else A.map (·.add (0 * 1))) ((xs.length : Int)).toNat ((xs.length : Int)).toNat := ⟨_, rfl⟩
 have hru : RdB w4 u xs := by rw [hu]; exact rd_full (c := cp) (by rw [← hve]; exact hv.lh hB)
 have hcu : vcap u = xs.length := by rw [hu]; rfl
 have hcp : xs.length ≤ cp := by obtain ⟨A', c', hv', h2, _⟩ := hv; rw [hve] at hv'; cases hv'; exact h2
 refine a4 (aw (v' := u) (g_sl3 aA bu (congrArg some hve) rfl rfl ⟨by omega, by omega, by omega⟩) hu.symm) rfl ?_
 refine ah (dA (m := 1) (xs := [.const (.int .u8 (128))]) (vs := [_]) aA bu (by decide) rfl rfl rfl (by first | (simp; done) | (intro v hv; rw [List.mem_singleton] at hv; subst hv; rfl)) (by decide)) rfl ?_
 rintro v1 w5 ⟨o1, nn1, lb1, k5, z4⟩
 have gl_o1 := hB.size
 replace hb1 := hb1.lh k5
 replace hb3 := hb3.lh k5
 replace hB := hB.trans k5
 replace o1 : Own w5 _ _ 1 v1 1 (bv [128]) := o1
 refine ah (lX (lo := w.heap.size) aA bu rfl (by first | exact hru | exact hru.lh ‹_›) hcu rfl (show RdB _ _ [128] from o1.rd) (by decide) (by simp only [List.length_singleton]; omega) (by have := hB.size; omega)) rfl ?_
 rintro q w6 ⟨oq, k6, hlb⟩
 replace oq : OwnB w6 w.heap.size q (xs ++ 128 :: List.replicate 0 0) := by unfold OwnB; rw [List.length_append]; exact oq
 have sbq_b1 := fun x hx => (show x ≠ b1 from by have h1 := hlb x hx; have h2 := hb1.lt; omega)
 have sbq_b2 := fun x hx => (show x ≠ b2 from by have h1 := hlb x hx; have h2 := hb3.lt; omega)
 replace hb1 := hb1.lh k6
 replace hb3 := hb3.lh k6
 replace hB := hB.trans k6
 have gl_oq := hB.size
 refine oga rfl rfl (aZ (aY (ag (bT (Γ := Nat × Value) (fun ⟨j, o⟩ => [(1, o), (2, .pointer (some ⟨b1, 0, none⟩)), (5, .pointer (some ⟨b2, 0, none⟩)), (6, .int .i64 64), (7, .int .u64 (8 * (xs.length : Int)))]) (fun ⟨j, o⟩ W => j ≤ zs 32 xs.length ∧ OwnB W w.heap.size o (xs ++ 128 :: List.replicate j 0) ∧ (∀ x, x ∈ vblk o → x ≠ b1 ∧ x ≠ b2) ∧ Bk W b1 96 [.int .i64 32, .int .i64 64, .int .i64 7, .int .i64 18, .int .i64 3, .int .i64 17, .int .i64 19, .int .i64 10, .int .i64 2, .int .i64 13, .int .i64 22, .int .i64 6, .int .i64 11, .int .i64 25] ∧ Bk W b2 104 [.int .i64 32, .int .i64 64, .int .i64 7, .int .i64 18, .int .i64 3, .int .i64 17, .int .i64 19, .int .i64 10, .int .i64 2, .int .i64 13, .int .i64 22, .int .i64 6, .int .i64 11, .int .i64 25, .int .u32 ((cst 32 Hl 0).toNat : Int), .int .u32 ((cst 32 Hl 1).toNat : Int), .int .u32 ((cst 32 Hl 2).toNat : Int), .int .u32 ((cst 32 Hl 3).toNat : Int), .int .u32 ((cst 32 Hl 4).toNat : Int), .int .u32 ((cst 32 Hl 5).toNat : Int), .int .u32 ((cst 32 Hl 6).toNat : Int), .int .u32 ((cst 32 Hl 7).toNat : Int)] ∧ Keep [] w W) (fun ⟨j, o⟩ => zs 32 xs.length - j) ⟨0, q⟩ ⟨rfl, rfl, rfl, rfl, rfl, trivial⟩ (⟨by omega, oq, fun x hx => ⟨sbq_b1 x hx, sbq_b2 x hx⟩, hb1, hb3, hB⟩) ?_))))
 rintro ⟨j, o⟩ w7 ⟨hj0, ow, hno, hbp, hbs, hB⟩
 refine ab [(1, o), (2, .pointer (some ⟨b1, 0, none⟩)), (5, .pointer (some ⟨b2, 0, none⟩)), (6, .int .i64 64), (7, .int .u64 (8 * (xs.length : Int)))] ⟨rfl, rfl, rfl, rfl, rfl, trivial⟩ ?_
 have hlo : (xs ++ 128 :: List.replicate j 0).length = xs.length + 1 + j := by rw [List.length_append, List.length_cons, List.length_replicate]; omega
 have sbo_b1 := fun x hx => (hno x hx).1
 have sbo_b2 := fun x hx => (hno x hx).2
 refine aY (aY (aX (ogm rfl rfl (a4 (aw (v' := .int .i64 ((xs.length + 1 + j : Nat) : Int)) (bI aA rfl ow.rd) (by rw [hlo])) rfl ?_))))
 refine ogm rfl rfl (a4 (g_rem rfl rfl (by omega)) rfl ?_)
 refine ogm rfl rfl (ogm rfl rfl (a4 (ak (j := 8) (iE rfl rfl (by decide)) (by decide)) rfl ?_))
 refine a4 (ak (j := 56) (bV rfl rfl) (by decide)) rfl ?_
 refine a4 (cC rfl rfl) rfl ?_
 refine aZ (ar rfl (fun hc1 => ?_) (fun hc1 => ?_))
 ·
  refine a8 (ag (aX (ogm rfl rfl (ah (dA (m := 1) (xs := [.const (.int .u8 (0))]) (vs := [_]) aA bu (by decide) rfl rfl rfl (by first | (simp; done) | (intro v hv; rw [List.mem_singleton] at hv; subst hv; rfl)) (by decide)) rfl ?_))))
  rintro v2 w8 ⟨o2, nn2, lb2, k7, z5⟩
  have gl_o2 := hB.size
  replace ow := ow.lh k7
  replace hbp := hbp.lh k7
  replace hbs := hbs.lh k7
  replace hB := hB.trans k7
  replace o2 : Own w8 _ _ 1 v2 1 (bv [0]) := o2
  have lt2_o3 := hbp.lt
  have lt5_o3 := hbs.lt
  refine ah (bS aA bu rfl ow rfl (show RdB _ _ [0] from o2.rd) (by rw [hlo]; simp only [List.length_singleton]; omega) (by have := hB.size; omega)) rfl ?_
  rintro v3 w9 ⟨o3, k8, lb3, _⟩
  replace hB := hB.new k8 (fun x hx => .inl (ow.blk x hx).1)
  replace hbp := hbp.keep k8 (fun hm => sbo_b1 _ hm rfl)
  have sb2_o3 := fun x hx => (lb3 x hx).elim (sbo_b1 x) (fun h => (show x ≠ b1 from by omega))
  replace hbs := hbs.keep k8 (fun hm => sbo_b2 _ hm rfl)
  have sb5_o3 := fun x hx => (lb3 x hx).elim (sbo_b2 x) (fun h => (show x ≠ b2 from by omega))
  refine oga rfl rfl (aZ (ab [(1, _), (2, _), (5, _), (6, _), (7, _)] ⟨rfl, rfl, rfl, rfl, rfl, trivial⟩ ?_))
  refine bg (bd (Γ := Nat × Value) ⟨j + 1, v3⟩ ⟨rfl, rfl, rfl, rfl, rfl, trivial⟩ (by (try dsimp only); omega) (⟨by omega, by unfold OwnB; rw [zstep, List.length_append]; exact o3, (fun x hx => ⟨sb2_o3 x hx, sb5_o3 x hx⟩), hbp, hbs, hB⟩))
 ·
  refine bN rfl ?_
  refine aY (aX (ogm rfl rfl (ogm rfl rfl (a4 (ak (j := 8) (iE rfl rfl (by decide)) (by decide)) rfl ?_))))
  refine a4 (ak (j := 0) (bV rfl rfl) (by decide)) rfl ?_
  obtain rfl : j = zs 32 xs.length := by omega
  refine ah (d_appZ0 aA aK bu rfl ow rfl (by decide)) rfl ?_
  rintro _ w10 ⟨rfl, k9⟩
  replace ow := ow.lh k9
  replace hbp := hbp.lh k9
  replace hbs := hbs.lh k9
  replace hB := hB.trans k9
  have hlz : ((xs ++ 128 :: List.replicate (zs 32 xs.length) 0)).length = xs.length + 1 + zs 32 xs.length := hlo
  refine oga rfl rfl (aZ (ab [(1, _), (2, _), (5, _), (6, _), (7, _)] ⟨rfl, rfl, rfl, rfl, rfl, trivial⟩ ?_))
  refine aY (aY (aX (oga rfl rfl (aZ (ag ?_)))))
  obtain ⟨pz, hpz⟩ : ∃ pz, pz = (xs ++ 128 :: List.replicate (zs 32 xs.length) 0) := ⟨_, rfl⟩
  rw [← hpz] at ow hlz
  refine bT (Γ := Nat × Value) (fun ⟨j, u⟩ => [(1, u), (2, .pointer (some ⟨b1, 0, none⟩)), (5, .pointer (some ⟨b2, 0, none⟩)), (6, .int .i64 64), (7, .int .u64 (8 * (xs.length : Int))), (8, .int .i64 (56 - 8 * (j : Int)))]) (fun ⟨j, u⟩ W => j ≤ 8 ∧ OwnB W w.heap.size u (pz ++ (be (8 * (xs.length : Int)) 8).take j) ∧ (∀ x, x ∈ vblk u → x ≠ b1 ∧ x ≠ b2) ∧ Bk W b1 96 [.int .i64 32, .int .i64 64, .int .i64 7, .int .i64 18, .int .i64 3, .int .i64 17, .int .i64 19, .int .i64 10, .int .i64 2, .int .i64 13, .int .i64 22, .int .i64 6, .int .i64 11, .int .i64 25] ∧ Bk W b2 104 [.int .i64 32, .int .i64 64, .int .i64 7, .int .i64 18, .int .i64 3, .int .i64 17, .int .i64 19, .int .i64 10, .int .i64 2, .int .i64 13, .int .i64 22, .int .i64 6, .int .i64 11, .int .i64 25, .int .u32 ((cst 32 Hl 0).toNat : Int), .int .u32 ((cst 32 Hl 1).toNat : Int), .int .u32 ((cst 32 Hl 2).toNat : Int), .int .u32 ((cst 32 Hl 3).toNat : Int), .int .u32 ((cst 32 Hl 4).toNat : Int), .int .u32 ((cst 32 Hl 5).toNat : Int), .int .u32 ((cst 32 Hl 6).toNat : Int), .int .u32 ((cst 32 Hl 7).toNat : Int)] ∧ Keep [] w W) (fun ⟨j, u⟩ => 8 - j) ⟨0, _⟩ ⟨rfl, rfl, rfl, rfl, rfl, rfl, trivial⟩ (⟨by omega, by rw [List.take_zero, List.append_nil]; exact ow, fun x hx => ⟨sbo_b1 x hx, sbo_b2 x hx⟩, hbp, hbs, hB⟩) ?_
  rintro ⟨j, u⟩ w11 ⟨hj0, ow, hno, hbp, hbs, hB⟩
  refine ab [(1, u), (2, .pointer (some ⟨b1, 0, none⟩)), (5, .pointer (some ⟨b2, 0, none⟩)), (6, .int .i64 64), (7, .int .u64 (8 * (xs.length : Int))), (8, .int .i64 (56 - 8 * (j : Int)))] ⟨rfl, rfl, rfl, rfl, rfl, rfl, trivial⟩ ?_
  have hlj : (pz ++ (be (8 * (xs.length : Int)) 8).take j).length = xs.length + 1 + zs 32 xs.length + j := by rw [List.length_append, hlz, List.length_take, bx]; omega
  have sbo_b1 := fun x hx => (hno x hx).1
  have sbo_b2 := fun x hx => (hno x hx).2
  refine aY (aY (aX (ogm rfl rfl (a4 (fA rfl rfl) rfl ?_))))
  refine aZ (ar rfl (fun hc2 => ?_) (fun hc2 => ?_))
  ·
   refine a8 (aY (ag (aX (ogm rfl rfl (ogm rfl rfl (ogm rfl rfl ?_))))))
   refine a4 (ez rfl rfl ⟨by omega, (show _ ≤ ((64 : Nat) : Int) from by omega)⟩) rfl ?_
   refine a4 (dY (by rw [aR]; rfl) aI rfl) rfl ?_
   refine ah (dA (m := 1) (xs := [.tmp 55]) (vs := [_]) aA bu (by decide) rfl rfl rfl (by first | (simp; done) | (intro v hv; rw [List.mem_singleton] at hv; subst hv; rfl)) (by decide)) rfl ?_
   rintro v4 w12 ⟨o4, nn3, lb4, k10, z6⟩
   have gl_o4 := hB.size
   replace ow := ow.lh k10
   replace hbp := hbp.lh k10
   replace hbs := hbs.lh k10
   replace hB := hB.trans k10
   have hby : IntKind.u8.wrap ((8 * (xs.length : Int)) / 2 ^ (56 - 8 * (j : Int)).toNat) = ((byteAt (8 * (xs.length : Int)) (7 - j)).toNat : Int) := by rw [cF, IntKind.wrap_u8]; congr 3; omega
   replace o4 := eU o4 hby
   have e1 : (be (8 * (xs.length : Int)) 8).take (j + 1) = (be (8 * (xs.length : Int)) 8).take j ++ [byteAt (8 * (xs.length : Int)) (7 - j)] := bl (by simp only [be, List.getElem?_map]; rw [List.getElem?_range (by omega)]; rfl)
   have lt2_o5 := hbp.lt
   have lt5_o5 := hbs.lt
   refine ah (bS aA bu rfl ow rfl (show RdB _ _ [byteAt (8 * (xs.length : Int)) (7 - j)] from o4.rd) (by rw [hlj]; simp only [List.length_singleton]; omega) (by have := hB.size; omega)) rfl ?_
   rintro v5 w13 ⟨o5, k11, lb5, _⟩
   replace hB := hB.new k11 (fun x hx => .inl (ow.blk x hx).1)
   replace hbp := hbp.keep k11 (fun hm => sbo_b1 _ hm rfl)
   have sb2_o5 := fun x hx => (lb5 x hx).elim (sbo_b1 x) (fun h => (show x ≠ b1 from by omega))
   replace hbs := hbs.keep k11 (fun hm => sbo_b2 _ hm rfl)
   have sb5_o5 := fun x hx => (lb5 x hx).elim (sbo_b2 x) (fun h => (show x ≠ b2 from by omega))
   replace o5 : OwnB w13 w.heap.size v5 (pz ++ (be (8 * (xs.length : Int)) 8).take (j + 1)) := by rw [e1, ← List.append_assoc]; unfold OwnB; rw [List.length_append]; exact o5
   refine oga rfl rfl (aZ (bg (aX (ogm rfl rfl (a4 (aw (v' := .int .i64 (56 - 8 * ((j + 1 : Nat) : Int))) (cy rfl rfl (by omega)) (by congr 1; omega)) rfl ?_)))))
   refine oga rfl rfl (aZ (ab [(1, _), (2, _), (5, _), (6, _), (7, _), (8, _)] ⟨rfl, rfl, rfl, rfl, rfl, rfl, trivial⟩ ?_))
   refine bd (Γ := Nat × Value) ⟨j + 1, v5⟩ ⟨rfl, rfl, rfl, rfl, rfl, rfl, trivial⟩ (by (try dsimp only); omega) (⟨by omega, o5, (fun x hx => ⟨sb2_o5 x hx, sb5_o5 x hx⟩), hbp, hbs, hB⟩)
  ·
   refine bN rfl ?_
   refine aY (ag ?_)
   obtain rfl : j = 8 := by omega
   have hpad : (pad 32 xs) = pz ++ (be (8 * (xs.length : Int)) 8).take 8 := by rw [hpz, iw, List.take_of_length_le (by rw [bx]; exact Nat.le_refl _)]
   have hru0 := ow.rd
   rw [← hpad] at hru0
   have hPM := fY xs; have hPL := iu xs
   obtain ⟨M, hM⟩ : ∃ M, M = ((pad 32 xs).length / (2 * 32)) := ⟨_, rfl⟩
   rw [← hM] at hPM
   refine bT (Γ := Nat × S8 32 × Value) (fun ⟨m, X, u⟩ => [(1, u), (2, .pointer (some ⟨b1, 0, none⟩)), (5, .pointer (some ⟨b2, 0, none⟩)), (6, .int .i64 64)]) (fun ⟨m, X, u⟩ W => m ≤ M ∧ blks bf Kl (M - m) ((pad 32 xs).drop (64 * m)) X = blks bf Kl M (pad 32 xs) (st8 32 Hl) ∧ RdB W u ((pad 32 xs).drop (64 * m)) ∧ (∀ x, x ∈ vblk u → x ≠ b2) ∧ Bk W b1 96 [.int .i64 32, .int .i64 64, .int .i64 7, .int .i64 18, .int .i64 3, .int .i64 17, .int .i64 19, .int .i64 10, .int .i64 2, .int .i64 13, .int .i64 22, .int .i64 6, .int .i64 11, .int .i64 25] ∧ Bk W b2 104 [.int .i64 32, .int .i64 64, .int .i64 7, .int .i64 18, .int .i64 3, .int .i64 17, .int .i64 19, .int .i64 10, .int .i64 2, .int .i64 13, .int .i64 22, .int .i64 6, .int .i64 11, .int .i64 25, .int .u32 ((X.a).toNat : Int), .int .u32 ((X.b).toNat : Int), .int .u32 ((X.c).toNat : Int), .int .u32 ((X.d).toNat : Int), .int .u32 ((X.e).toNat : Int), .int .u32 ((X.f).toNat : Int), .int .u32 ((X.g).toNat : Int), .int .u32 ((X.h).toNat : Int)] ∧ Keep [] w W) (fun ⟨m, X, u⟩ => M - m) ⟨0, st8 32 Hl, _⟩ ⟨rfl, rfl, rfl, rfl, trivial⟩ (⟨by omega, rfl, hru0, fun x hx => sbo_b2 x hx, hbp, hbs, hB⟩) ?_
   rintro ⟨m, X, u⟩ w14 ⟨hm0, heq, hru, hnu, hbp, hbs, hB⟩
   refine ab [(1, u), (2, .pointer (some ⟨b1, 0, none⟩)), (5, .pointer (some ⟨b2, 0, none⟩)), (6, .int .i64 64)] ⟨rfl, rfl, rfl, rfl, trivial⟩ ?_
   have hcu := hru.vcap
   have hlu : ((pad 32 xs).drop (64 * m)).length = (pad 32 xs).length - 64 * m := List.length_drop
   refine aY (aY (aX (ogm rfl rfl (a4 (aw (v' := .int .i64 (((pad 32 xs).length - 64 * m : Nat) : Int)) (bI aA rfl hru) (by rw [hlu])) rfl ?_))))
   refine a4 (dr rfl rfl) rfl ?_
   refine aZ (ar rfl (fun hc3 => ?_) (fun hc3 => ?_))
   ·
    refine a8 (ag (aY (aX (ogm rfl rfl (ogm rfl rfl ?_)))))
    have hge : 64 ≤ (pad 32 xs).length - 64 * m := by omega
    refine a4 (aw (v' := cut u 0 64 1) (ek aA bu rfl hru (.inl ⟨rfl, rfl⟩) (.inr ⟨_, _, rfl, rfl⟩) ⟨by omega, by omega, by omega⟩) rfl) rfl ?_
    have hck : RdB w14 (cut u 0 64 1) (((pad 32 xs).drop (64 * m)).take 64) := by have := hru.cutB (l := 0) (hi := 64) (by omega) (by rw [hlu]; omega); simpa using this
    have hcl : (((pad 32 xs).drop (64 * m)).take 64).length = 64 := by rw [List.length_take, hlu]; omega
    refine ah (a7 (vs := [_, _]) rfl (jH b2 _ (((pad 32 xs).drop (64 * m)).take 64) X _ (hT.lh hB) hck hcl (by have := hT.two; omega) (fun x hx hm => hnu x (jy hx) (List.mem_singleton.1 hm)) hbs)) rfl ?_
    rintro _ w15 ⟨rfl, hb4, k12⟩
    have hru2 := hru.keep k12 (fun x hx hm => hnu x hx (List.mem_singleton.1 hm))
    replace hbp := hbp.keep k12 (nm ne_b1_b2)
    replace hB := hB.new k12 (nw ge_b2)
    refine aZ (aX (ogm rfl rfl (ogm rfl rfl (a4 (aw (v' := cut u 64 ((pad 32 xs).drop (64 * m)).length 1) (ek aA bu rfl hru2 (.inr ⟨_, _, rfl, rfl⟩) (.inl ⟨rfl, rfl⟩) ⟨by omega, by rw [hlu]; omega, by omega⟩) (by rw [Int.toNat_natCast]; rfl)) rfl ?_))))
    have hru3 : RdB w15 (cut u 64 ((pad 32 xs).drop (64 * m)).length 1) ((pad 32 xs).drop (64 * (m + 1))) := by have := hru2.cutB (l := 64) (hi := ((pad 32 xs).drop (64 * m)).length) (by rw [hlu]; omega) (Nat.le_refl _); rw [List.take_of_length_le (by rw [List.length_drop]; omega), List.drop_drop] at this; exact this
    have hnu3 : ∀ x, x ∈ vblk (cut u 64 ((pad 32 xs).drop (64 * m)).length 1) → x ≠ b2 := fun x hx => hnu x (jN hx)
    refine oga rfl rfl (aZ (ab [(1, _), (2, _), (5, _), (6, _)] ⟨rfl, rfl, rfl, rfl, trivial⟩ ?_))
    refine bg (bd (Γ := Nat × S8 32 × Value) ⟨m + 1, blk bf Kl (((pad 32 xs).drop (64 * m)).take 64) X, _⟩ ⟨rfl, rfl, rfl, rfl, trivial⟩ (by (try dsimp only); omega) (⟨by omega, by rw [← heq, gF (show 0 < M - m from by omega), List.drop_drop]; rfl, hru3, hnu3, hbp, hb4, hB⟩))
   ·
    refine bN rfl ?_
    refine aY (aX (oga rfl rfl (aZ (aY (aY (aX ?_))))))
    refine a4 (aj 14 aH rfl cP (by decide) rfl rfl) rfl ?_
    refine a4 (an (cs' := [_, _, _, _, _, _, _, _]) ag102 cP rfl hbs rfl rfl) rfl ?_
    refine ogm rfl rfl (aZ (ag ?_))
    obtain rfl : m = M := by omega
    rw [Nat.sub_self] at heq
    refine bT (Γ := Nat × Value) (fun ⟨i, o⟩ => [(2, .pointer (some ⟨b1, 0, none⟩)), (9, o), (69, .agg [.int .u32 ((X.a).toNat : Int), .int .u32 ((X.b).toNat : Int), .int .u32 ((X.c).toNat : Int), .int .u32 ((X.d).toNat : Int), .int .u32 ((X.e).toNat : Int), .int .u32 ((X.f).toNat : Int), .int .u32 ((X.g).toNat : Int), .int .u32 ((X.h).toNat : Int)].toArray), (70, .int .i64 (i : Int))]) (fun ⟨i, o⟩ W => i ≤ 8 ∧ OwnB W w.heap.size o (((de X).take i).flatMap fun x => be (x.toNat : Int) 4) ∧ (∀ x, x ∈ vblk o → x ≠ b1) ∧ Bk W b1 96 [.int .i64 32, .int .i64 64, .int .i64 7, .int .i64 18, .int .i64 3, .int .i64 17, .int .i64 19, .int .i64 10, .int .i64 2, .int .i64 13, .int .i64 22, .int .i64 6, .int .i64 11, .int .i64 25] ∧ Keep [] w W) (fun ⟨i, o⟩ => 8 - i) ⟨0, .slice none 0 0⟩ ⟨rfl, rfl, rfl, rfl, trivial⟩ (⟨by omega, a9 _ _ _ _, fun x hx => (by cases hx), hbp, hB⟩) ?_
    rintro ⟨i, o⟩ w16 ⟨hi0, ow, hno, hbp, hB⟩
    refine ab [(2, .pointer (some ⟨b1, 0, none⟩)), (9, o), (69, .agg [.int .u32 ((X.a).toNat : Int), .int .u32 ((X.b).toNat : Int), .int .u32 ((X.c).toNat : Int), .int .u32 ((X.d).toNat : Int), .int .u32 ((X.e).toNat : Int), .int .u32 ((X.f).toNat : Int), .int .u32 ((X.g).toNat : Int), .int .u32 ((X.h).toNat : Int)].toArray), (70, .int .i64 (i : Int))] ⟨rfl, rfl, rfl, rfl, trivial⟩ ?_
    have hfl : (((de X).take i).flatMap fun x => be (x.toNat : Int) 4).length ≤ 32 := jC X i
    refine aY (aX (a4 (bO rfl rfl) rfl ?_))
    refine aZ (aY (ar rfl (fun hc4 => ?_) (fun hc4 => ?_)))
    ·
     refine a8 (aY (ag (aY (aX ?_))))
     obtain ⟨x, hx⟩ : ∃ x, (de X)[i]? = some x := ⟨_, List.getElem?_eq_getElem (show i < (de X).length from by show i < 8; omega)⟩
     refine a4 (aw (v' := .int .u32 ((x).toNat : Int)) (f8 (cs := iv .u32 8 (wN (de X))) aF bX dJ rfl rfl (by omega) (cq (by omega))) (by rw [Int.toNat_natCast]; unfold wN; rw [List.getD_eq_getElem?_getD, hx]; rfl)) rfl ?_
     refine oga rfl rfl (aZ (aY (aX (a4 (aj 0 aM rfl bJ (by decide) rfl rfl) rfl ?_))))
     refine a4 (ac bZ rfl hbp rfl) rfl ?_
     refine a4 (ak (j := 24) (bV rfl rfl) (by decide)) rfl ?_
     refine oga rfl rfl (aZ (ag (bT (Γ := Nat × Value) (fun ⟨j, o'⟩ => [(2, .pointer (some ⟨b1, 0, none⟩)), (9, o'), (11, .int .u32 ((x).toNat : Int)), (12, .int .i64 (24 - 8 * (j : Int))), (69, .agg [.int .u32 ((X.a).toNat : Int), .int .u32 ((X.b).toNat : Int), .int .u32 ((X.c).toNat : Int), .int .u32 ((X.d).toNat : Int), .int .u32 ((X.e).toNat : Int), .int .u32 ((X.f).toNat : Int), .int .u32 ((X.g).toNat : Int), .int .u32 ((X.h).toNat : Int)].toArray), (70, .int .i64 (i : Int))]) (fun ⟨j, o'⟩ W => j ≤ 4 ∧ OwnB W w.heap.size o' ((((de X).take i).flatMap fun x => be (x.toNat : Int) 4) ++ (be (x.toNat : Int) 4).take j) ∧ (∀ x, x ∈ vblk o' → x ≠ b1) ∧ Bk W b1 96 [.int .i64 32, .int .i64 64, .int .i64 7, .int .i64 18, .int .i64 3, .int .i64 17, .int .i64 19, .int .i64 10, .int .i64 2, .int .i64 13, .int .i64 22, .int .i64 6, .int .i64 11, .int .i64 25] ∧ Keep [] w W) (fun ⟨j, o'⟩ => 4 - j) ⟨0, o⟩ ⟨rfl, rfl, rfl, rfl, rfl, rfl, trivial⟩ (⟨by omega, by rw [List.take_zero, List.append_nil]; exact ow, hno, hbp, hB⟩) ?_)))
     rintro ⟨j, o'⟩ w17 ⟨hj0, ow, hno, hbp, hB⟩
     refine ab [(2, .pointer (some ⟨b1, 0, none⟩)), (9, o'), (11, .int .u32 ((x).toNat : Int)), (12, .int .i64 (24 - 8 * (j : Int))), (69, .agg [.int .u32 ((X.a).toNat : Int), .int .u32 ((X.b).toNat : Int), .int .u32 ((X.c).toNat : Int), .int .u32 ((X.d).toNat : Int), .int .u32 ((X.e).toNat : Int), .int .u32 ((X.f).toNat : Int), .int .u32 ((X.g).toNat : Int), .int .u32 ((X.h).toNat : Int)].toArray), (70, .int .i64 (i : Int))] ⟨rfl, rfl, rfl, rfl, rfl, rfl, trivial⟩ ?_
     refine aY (aY (aX (ogm rfl rfl (a4 (fA rfl rfl) rfl ?_))))
     refine aZ (ar rfl (fun hc5 => ?_) (fun hc5 => ?_))
     ·
      refine a8 (aY (ag (aX (ogm rfl rfl (ogm rfl rfl (ogm rfl rfl ?_))))))
      refine a4 (ez rfl rfl (by constructor <;> (try simp only [IntKind.bits]) <;> omega)) rfl ?_
      refine a4 (dY (by rw [aS]; rfl) aI rfl) rfl ?_
      refine ah (dA (m := 1) (xs := [.tmp 84]) (vs := [_]) aA bu (by decide) rfl rfl rfl (by first | (simp; done) | (intro v hv; rw [List.mem_singleton] at hv; subst hv; rfl)) (by decide)) rfl ?_
      rintro v6 w18 ⟨o6, nn4, lb6, k13, z7⟩
      have gl_o6 := hB.size
      replace ow := ow.lh k13
      replace hbp := hbp.lh k13
      replace hB := hB.trans k13
      have hby : IntKind.u8.wrap ((x.toNat : Int) / 2 ^ (24 - 8 * (j : Int)).toNat) = ((byteAt (x.toNat : Int) (3 - j)).toNat : Int) := by rw [cF, IntKind.wrap_u8]; congr 3; omega
      replace o6 := eU o6 hby
      have e1 : (be (x.toNat : Int) 4).take (j + 1) = (be (x.toNat : Int) 4).take j ++ [byteAt (x.toNat : Int) (3 - j)] := bl (by simp only [be, List.getElem?_map]; rw [List.getElem?_range (by omega)]; rfl)
      have hl8 : ((be (x.toNat : Int) 4).take j).length ≤ 4 := by rw [List.length_take, bx]; omega
      have lt_o7 := hbp.lt
      refine ah (bS aA bu rfl ow rfl (show RdB _ _ [byteAt (x.toNat : Int) (3 - j)] from o6.rd) (by simp only [List.length_append, List.length_singleton]; omega) (by have := hB.size; omega)) rfl ?_
      rintro v7 w19 ⟨o7, k14, lb7, _⟩
      replace hB := hB.new k14 (fun x hx => .inl (ow.blk x hx).1)
      replace hbp := hbp.keep k14 (fun hm => hno _ hm rfl)
      have sb_o7 := fun x hx => (lb7 x hx).elim (hno x) (fun h => (show x ≠ b1 from by omega))
      refine oga rfl rfl (aZ (bg (aX (ogm rfl rfl (a4 (aw (v' := .int .i64 (24 - 8 * ((j + 1 : Nat) : Int))) (cy rfl rfl (by omega)) (by congr 1; omega)) rfl ?_)))))
      refine oga rfl rfl (aZ (ab [(2, _), (9, _), (11, _), (12, _), (69, _), (70, _)] ⟨rfl, rfl, rfl, rfl, rfl, rfl, trivial⟩ ?_))
      refine bd (Γ := Nat × Value) ⟨j + 1, v7⟩ ⟨rfl, rfl, rfl, rfl, rfl, rfl, trivial⟩ (by (try dsimp only); omega) (⟨by omega, by rw [e1, ← List.append_assoc]; unfold OwnB; rw [List.length_append]; exact o7, sb_o7, hbp, hB⟩)
     ·
      refine bN rfl ?_
      refine bg (aX (a4 (br rfl rfl (by omega)) rfl ?_))
      refine ogm rfl rfl (aZ ?_)
      obtain rfl : j = 4 := by omega
      rw [List.take_of_length_le (show (be (x.toNat : Int) 4).length ≤ 4 from by rw [bx]; exact Nat.le_refl _)] at ow
      refine bd (Γ := Nat × Value) ⟨i + 1, o'⟩ ⟨rfl, rfl, rfl, rfl, trivial⟩ (by (try dsimp only); omega) (⟨by omega, by rw [gp hx]; exact ow, hno, hbp, hB⟩)
    ·
     refine bN rfl ?_
     refine aY (aX (ogm rfl rfl (oga rfl rfl (aZ (af hfin Tryd.results73 rfl ?_)))))
     obtain rfl : i = 8 := by omega
     rw [List.take_of_length_le (show (de X).length ≤ 8 from Nat.le_refl 8)] at ow
     refine ⟨?_, hB⟩
     unfold Sha.sum
     rw [← hM, ← heq]
     exact ow
theorem g0 (v : Value) (xs : List UInt8) (w : World) (hT : Tabs w) (hv : RdB w v xs) (hx : xs.length ≤ 140737488354000) : Rets Tryd.prog 65 [v] w (fun r w' => OwnB w' w.heap.size r (Sha.sum bf Kl Hl xs) ∧ Keep [] w w') := by
 have hB : Keep [] w w := Keep.refl _ _
 refine ad Tryd.func65 rfl (by decide) Tryd.ntmps65 rfl (fun fin _ hfin => ?_)
 refine aY (aX (oga rfl rfl (aZ (aY (aX (ah (a7 (vs := []) rfl (j0 _)) rfl ?_))))))
 rintro _ w1 ⟨rfl, k1⟩
 replace hB := hB.trans k1
 refine ogm rfl rfl (ah (a7 (vs := [_, _]) rfl (kB _ xs _ (hT.lh hB) (hv.lh hB) hx)) rfl ?_)
 rintro v1 w2 ⟨o1, k2⟩
 have gl_o1 := hB.size
 replace hB := hB.trans k2
 refine oga rfl rfl (aZ (af hfin Tryd.results65 rfl ?_))
 exact ⟨o1.lo gl_o1, hB⟩
theorem eo (v : Value) (xs : List UInt8) (w : World) (hv : RdB w v xs) (hx : xs.length ≤ 140737488354000) : Rets Tryd.prog 46 [v] w (fun r w' => OwnB w' w.heap.size r (Sha.sum bf Kl Hl xs) ∧ Keep [] w w') := by
 have hB : Keep [] w w := Keep.refl _ _
 refine ad Tryd.func46 rfl (by decide) Tryd.ntmps46 rfl (fun fin _ hfin => ?_)
 refine aY (aX (oga rfl rfl (aZ (aY (aX (ah (a7 (vs := []) rfl (jU _)) rfl ?_))))))
 rintro _ w1 ⟨l0, l1, u0, u1, rfl, a, b, c, d, k1⟩
 replace hB := hB.trans k1
 have hA : Keep [] w1 w1 := Keep.refl _ _
 refine ah (cI dH) rfl ?_
 rintro _ w2 ⟨b1, rfl, eb1, hb1, k2, z1⟩
 have gA2 : w1.heap.size ≤ b1 := by have := hA.size; omega
 have gA_b1 := hA.size
 have ge_b1 : w.heap.size ≤ b1 := by have := hB.size; omega
 replace hA := hA.trans k2
 replace hB := hB.trans k2
 clear eb1 z1
 refine am (bU dH rfl rfl rfl (by simp only [List.forall_mem_cons]; exact ⟨rfl, rfl, rfl, a.one, b.one, c.one, d.one, fun v hv => by cases hv⟩) hb1 rfl) ?_
 rintro _ w3 ⟨hb2, k3, z2⟩
 replace hA := hA.new k3 (fun x hx => .inl (by rw [List.mem_singleton] at hx; omega))
 replace hB := hB.new k3 (nw ge_b1)
 clear z2
 replace hb2 : Bk w3 b1 _ [.int .i64 32, .int .i64 64, .int .i64 64, l0, l1, u0, u1] := hb2
 refine aZ (aY (aX (a4 (an (cs' := [_, _, _, _, _, _, _]) df dH rfl hb2 rfl rfl) rfl ?_)))
 refine ogm rfl rfl (ah (a7 (vs := [_, _]) rfl (jT _ _ _ _ _ xs _ (a.lh hA) (b.lh hA) (c.lh hA) (d.lh hA) (hv.lh hB) hx)) rfl ?_)
 rintro v1 w4 ⟨o1, k4⟩
 replace hA := hA.trans k4
 have gl_o1 := hB.size
 replace hB := hB.trans k4
 refine oga rfl rfl (aZ (af hfin Tryd.results46 rfl ?_))
 exact ⟨o1.lo gl_o1, hB⟩
theorem gi (kv v : Value) (k : List UInt8) (us : List Value) (ls : List (List UInt8)) (x : UInt8) (w : World) (hT : Tabs w) (hk : RdB w kv k) (hkl : k.length ≤ 64) (h3 : Rd w 1 v us.length us) (h2 : RdL w us ls) (hsum : ls.flatten.length ≤ 140737488353000) : Rets Tryd.prog 66 [kv, .int .u8 (x.toNat : Int), v] w (fun r w' => OwnB w' w.heap.size r (dD (padK k x ++ ls.flatten)) ∧ Keep [] w w') := by
 have hB : Keep [] w w := Keep.refl _ _
 have hul := h2.1
 have hule := h3.le
 refine ad Tryd.func66 rfl (by decide) Tryd.ntmps66 rfl (fun fin _ hfin => ?_)
 refine aY (aX (oga rfl rfl (aZ (aY (aX (ogm rfl rfl ?_))))))
 refine ah (dA (m := 1) (xs := [.tmp 12]) (vs := [_]) aA bu (by decide) rfl rfl rfl (by first | (simp; done) | (intro v hv; rw [List.mem_singleton] at hv; subst hv; rfl)) (by decide)) rfl ?_
 rintro v1 w1 ⟨o1, nn1, lb1, k1, z1⟩
 have gl_o1 := hB.size
 replace hB := hB.trans k1
 refine ah (a7 (vs := [_, _]) rfl (iQ _ x _ (show Rd _ 1 _ 1 (bv [x]) from o1.rd))) rfl ?_
 rintro _ w2 ⟨g, J, rfl, hg0, hbR, k2⟩
 replace o1 := o1.lh k2
 replace hB := hB.trans k2
 have ge_g : w.heap.size ≤ g := by omega
 refine oga rfl rfl (aZ (aY (aY (aX (ogm rfl rfl (a4 (bI aA rfl (by first | assumption | exact Own.rd ‹_› | exact Rd.lh ‹_› hB | exact Own.rd (Own.lh ‹_› hB))) rfl ?_))))))
 refine ogm rfl rfl (aZ (ag (bT (Γ := Nat) (fun i => [(2, v), (7, .slice (some ⟨g, 0, none⟩) 64 64), (15, kv), (16, .int .i64 (k.length : Int)), (17, .int .i64 (i : Int))]) (fun i W => i ≤ k.length ∧ Bk W g 5 (bv (padI k x i) ++ J) ∧ Keep [] w W) (fun i => k.length - i) 0 ⟨rfl, rfl, rfl, rfl, rfl, trivial⟩ (⟨by omega, hbR, hB⟩) ?_)))
 rintro i w3 ⟨hi0, hbx, hB⟩
 refine ab [(2, v), (7, .slice (some ⟨g, 0, none⟩) 64 64), (15, kv), (16, .int .i64 (k.length : Int)), (17, .int .i64 (i : Int))] ⟨rfl, rfl, rfl, rfl, rfl, trivial⟩ ?_
 have hpl : (padI k x i).length = 64 := cw (by rw [List.length_take]; omega) x
 refine aY (aX (a4 (bO rfl rfl) rfl ?_))
 refine aZ (aY (ar rfl (fun hc1 => ?_) (fun hc1 => ?_)))
 ·
  refine a8 (aY (ag (aY (aX (ogm rfl rfl (a4 (bR aA bu rfl (by first | assumption | exact Own.rd ‹_› | exact Rd.lh ‹_› hB | exact Own.rd (Own.lh ‹_› hB)) rfl (by omega)) rfl ?_))))))
  obtain ⟨c, hc⟩ : ∃ c, k[i]? = some c := ⟨_, List.getElem?_eq_getElem (by omega)⟩
  have hgc : gb k (i : Int) = (c.toNat : Int) := by unfold gb; rw [List.getD_eq_getElem?_getD, Int.toNat_natCast, hc]; rfl
  refine a4 (aw (v' := .int .u8 (c.toNat : Int)) (eK jR rfl (hk.lh hB) (by omega)) (by rw [hgc])) rfl ?_
  refine oga rfl rfl (oga rfl rfl (aZ (aX (ogm rfl rfl (ogm rfl rfl (a4 (aw (v' := .pointer (some ⟨g, i, none⟩)) (bR aA bu rfl (by have h9 := iR (c := 64) (xs := padI k x i) hbx (by omega) (by decide); rw [hpl] at h9; exact h9) rfl (by rw [hpl]; omega)) (by simp [ea, Addr.add_lit])) rfl ?_))))))
  refine a4 (ac (u := .int .u8 (x.toNat : Int)) jR rfl hbx (kX (by omega) hkl)) rfl ?_
  refine ogm rfl rfl (a4 (aw (v' := .int .u8 ((x ^^^ c).toNat : Int)) (iz rfl rfl) (by rw [xor8])) rfl ?_)
  refine a4 (aw (v' := .pointer (some ⟨g, i, none⟩)) (bR aA bu rfl (by have h9 := iR (c := 64) (xs := padI k x i) hbx (by omega) (by decide); rw [hpl] at h9; exact h9) rfl (by rw [hpl]; omega)) (by simp [ea, Addr.add_lit])) rfl ?_
  refine am (bQ bu rfl rfl rfl hbx (by rw [List.length_append, bL, hpl, Nat.blt_eq]; omega)) ?_
  rintro _ w4 ⟨hb1, k3, _⟩
  rw [lF hc hkl] at hb1
  replace hB := hB.new k3 (nw ge_g)
  refine aZ (ab [(2, _), (7, _), (15, _), (16, _), (17, _)] ⟨rfl, rfl, rfl, rfl, rfl, trivial⟩ ?_)
  refine bg (aX (a4 (br rfl rfl (by omega)) rfl ?_))
  refine ogm rfl rfl (aZ (bd (Γ := Nat) (i + 1) ⟨rfl, rfl, rfl, rfl, rfl, trivial⟩ (by (try dsimp only); omega) (⟨by omega, hb1, hB⟩)))
 ·
  refine bN rfl ?_
  refine aY (aY (aX (ogm rfl rfl (a4 (bI aJ rfl (by first | assumption | exact Own.rd ‹_› | exact Rd.lh ‹_› hB | exact Own.rd (Own.lh ‹_› hB))) rfl ?_))))
  refine ogm rfl rfl (aZ (ag ?_))
  obtain rfl : i = k.length := by omega
  rw [lH] at hbx hpl
  have fa0 : Fat w3 w.heap.size 5 (.slice (some ⟨g, 0, none⟩) 64 64) (padK k x) := ⟨by have h9 := iR (c := 64) hbx (by omega) (by decide); rw [hpl] at h9; exact h9, fun y hy => (by simp only [vblk, List.mem_singleton] at hy; subst hy; exact ⟨ge_g, hbx.lt⟩), .inr hpl.symm⟩
  refine bT (Γ := Nat × Value) (fun ⟨j, o⟩ => [(7, o), (30, v), (31, .int .i64 (us.length : Int)), (32, .int .i64 (j : Int))]) (fun ⟨j, o⟩ W => j ≤ ls.length ∧ Fat W w.heap.size 5 o (padK k x ++ (ls.take j).flatten) ∧ Keep [] w W) (fun ⟨j, o⟩ => ls.length - j) ⟨0, .slice (some ⟨g, 0, none⟩) 64 64⟩ ⟨rfl, rfl, rfl, rfl, trivial⟩ (⟨by omega, by rw [List.take_zero, List.flatten_nil, List.append_nil]; exact fa0, hB⟩) ?_
  rintro ⟨j, o⟩ w5 ⟨hj0, fa, hB⟩
  refine ab [(7, o), (30, v), (31, .int .i64 (us.length : Int)), (32, .int .i64 (j : Int))] ⟨rfl, rfl, rfl, rfl, trivial⟩ ?_
  refine aY (aX (a4 (bO rfl rfl) rfl ?_))
  refine aZ (aY (ar rfl (fun hc2 => ?_) (fun hc2 => ?_)))
  ·
   refine a8 (aY (ag (aY (aX (a4 (bR aJ az rfl (by first | assumption | exact Own.rd ‹_› | exact Rd.lh ‹_› hB | exact Own.rd (Own.lh ‹_› hB)) rfl (by omega)) rfl ?_)))))
   obtain ⟨u, y, hy, hu, ru⟩ := h2.get (i := j) (by omega)
   refine a4 (dN ba rfl (Rd.lh h3 hB) (by rw [Nat.mul_one]; exact hu)) rfl ?_
   refine oga rfl rfl (aZ (aX (ogm rfl rfl (ogm rfl rfl ?_))))
   have hfl := dv ls (j + 1)
   rw [bl hy, List.flatten_append, List.flatten_singleton, List.length_append] at hfl
   refine ah (d_appG aA bu rfl fa rfl (ru.lh hB) (by rw [List.length_append, cw hkl]; omega) (by have := hB.size; omega)) rfl ?_
   rintro q1 w6 ⟨fa2, k4⟩
   replace hB := hB.new k4 (fun y hy => .inl (fa.2.1 y hy).1)
   refine oga rfl rfl (aZ (bg (aX (a4 (br rfl rfl (by omega)) rfl ?_))))
   refine ogm rfl rfl (aZ (bd (Γ := Nat × Value) ⟨j + 1, q1⟩ ⟨rfl, rfl, rfl, rfl, trivial⟩ (by (try dsimp only); omega) (⟨by omega, by rw [bl hy, List.flatten_append, List.flatten_singleton, ← List.append_assoc]; exact fa2, hB⟩)))
  ·
   refine bN rfl ?_
   refine aY (aX (ogm rfl rfl (ah (a7 (vs := [_]) rfl (g0 _ (padK k x ++ ls.flatten) _ (hT.lh hB) (by have h9 := fa.1; rw [List.take_of_length_le (by omega)] at h9; exact h9) (by rw [List.length_append, cw hkl]; omega))) rfl ?_)))
   rintro v2 w7 ⟨o2, k5⟩
   have gl_o2 := hB.size
   replace fa := fa.lh k5
   replace hB := hB.trans k5
   refine oga rfl rfl (aZ (af hfin Tryd.results66 rfl ?_))
   exact ⟨o2.lo gl_o2, hB⟩
theorem iD {lo : Nat} (kv v : Value) (k : List UInt8) (ls : List (List UInt8)) (x : UInt8) (w : World) (hT : Tabs w) (hk : RdB w kv k) (hkl : k.length ≤ 64) (h : SlL w lo 22 v ls) (hsum : ls.flatten.length ≤ 140737488353000) : Rets Tryd.prog 66 [kv, .int .u8 (x.toNat : Int), v] w (fun r w' => OwnB w' w.heap.size r (dD (padK k x ++ ls.flatten)) ∧ Keep [] w w') := by
  obtain ⟨us, h1, h2, h3⟩ := h
  have h4 := h3.rd
  rw [← h1] at h4
  exact gi kv v k us ls x w hT hk hkl h4 h2 hsum
theorem lQ (kv v : Value) (k : List UInt8) (us : List Value) (ls : List (List UInt8)) (w : World) (hT : Tabs w) (hk : RdB w kv k) (hkl : k.length ≤ 140737488353000) (h3 : Rd w 1 v us.length us) (h2 : RdL w us ls) (hsum : ls.flatten.length ≤ 140737488353000) : Rets Tryd.prog 43 [kv, v] w (fun r w' => OwnB w' w.heap.size r (hmacL k ls) ∧ Keep [] w w') := by
 have hB : Keep [] w w := Keep.refl _ _
 refine ad Tryd.func43 rfl (by decide) Tryd.ntmps43 rfl (fun fin _ hfin => ?_)
 refine aY (aX (oga rfl rfl (aZ (aY (aY (aX ?_))))))
 refine ogm rfl rfl (a4 (bI aA rfl (by first | assumption | exact Own.rd ‹_› | exact Rd.lh ‹_› hB | exact Own.rd (Own.lh ‹_› hB))) rfl ?_)
 refine a4 (dr rfl rfl) rfl ?_
 refine aZ (ar rfl (fun hc1 => ?_) (fun hc1 => ?_))
 ·
  refine aX (ogm rfl rfl (ah (a7 (vs := [_]) rfl (g0 _ k _ (hT.lh hB) (hk.lh hB) (by omega))) rfl ?_))
  rintro v1 w1 ⟨o1, k1⟩
  have gl_o1 := hB.size
  replace hB := hB.trans k1
  refine oga rfl rfl (aZ (aY (aX (ogm rfl rfl (ogm rfl rfl (ogm rfl rfl ?_))))))
  refine ah (a7 (vs := [_, _, _]) rfl (gi _ _ (dD k) us ls 54 _ (hT.lh hB) o1.rd (by rw [db]; decide) (Rd.lh h3 hB) (RdL.lh h2 hB) hsum)) rfl ?_
  rintro v2 w2 ⟨o2, k2⟩
  have gl_o2 := hB.size
  replace o1 := o1.lh k2
  replace hB := hB.trans k2
  refine ah (dG (m := 1) (ls := [dD (padK (dD k) 54 ++ ls.flatten)]) (xs := [.tmp 13]) (us := [_]) aJ az rfl rfl (bA (by first | exact Rd.nil _ _ | exact (by first | assumption | exact Own.rd ‹_› | exact Rd.lh ‹_› hB | exact Own.rd (Own.lh ‹_› hB))) (bt _)) rfl rfl) rfl ?_
  rintro v3 w3 ⟨sl1, k3⟩
  replace o1 := o1.lh k3
  replace o2 := o2.lh k3
  replace hB := hB.trans k3
  refine ah (a7 (vs := [_, _, _]) rfl (iD _ _ (dD k) [dD (padK (dD k) 54 ++ ls.flatten)] 92 _ (hT.lh hB) o1.rd (by rw [db]; decide) ‹_› (by rw [List.flatten_singleton, db]; decide))) rfl ?_
  rintro v4 w4 ⟨o4, k4⟩
  have gl_o4 := hB.size
  replace o1 := o1.lh k4
  replace o2 := o2.lh k4
  replace sl1 := sl1.lh k4
  replace hB := hB.trans k4
  refine oga rfl rfl (aZ (ab [(4, _)] ⟨rfl, trivial⟩ ?_))
  refine af hfin Tryd.results43 rfl ?_
  have e : keyK k = dD k := if_pos (by omega)
  refine ⟨?_, hB⟩
  unfold hmacL
  rw [e]; have h9 := o4.lo gl_o4; rw [List.flatten_singleton] at h9; exact h9
 ·
  refine a8 (aY (aX (ogm rfl rfl (ogm rfl rfl (ogm rfl rfl (ah (a7 (vs := [_, _, _]) rfl (gi _ _ k us ls 54 _ (hT.lh hB) (hk.lh hB) (by omega) (Rd.lh h3 hB) (RdL.lh h2 hB) hsum)) rfl ?_))))))
  rintro v5 w5 ⟨o5, k5⟩
  have gl_o5 := hB.size
  replace hB := hB.trans k5
  refine ah (dG (m := 1) (ls := [dD (padK k 54 ++ ls.flatten)]) (xs := [.tmp 13]) (us := [_]) aJ az rfl rfl (bA (by first | exact Rd.nil _ _ | exact (by first | assumption | exact Own.rd ‹_› | exact Rd.lh ‹_› hB | exact Own.rd (Own.lh ‹_› hB))) (bt _)) rfl rfl) rfl ?_
  rintro v6 w6 ⟨sl2, k6⟩
  replace o5 := o5.lh k6
  replace hB := hB.trans k6
  refine ah (a7 (vs := [_, _, _]) rfl (iD _ _ k [dD (padK k 54 ++ ls.flatten)] 92 _ (hT.lh hB) (hk.lh hB) (by omega) ‹_› (by rw [List.flatten_singleton, db]; decide))) rfl ?_
  rintro v7 w7 ⟨o7, k7⟩
  have gl_o7 := hB.size
  replace sl2 := sl2.lh k7
  replace hB := hB.trans k7
  refine oga rfl rfl (aZ (ab [(4, _)] ⟨rfl, trivial⟩ ?_))
  refine af hfin Tryd.results43 rfl ?_
  have e : keyK k = k := if_neg (by omega)
  refine ⟨?_, hB⟩
  unfold hmacL
  rw [e]; have h9 := o7.lo gl_o7; rw [List.flatten_singleton] at h9; exact h9
theorem kc {lo : Nat} (kv v : Value) (k : List UInt8) (ls : List (List UInt8)) (w : World) (hT : Tabs w) (hk : RdB w kv k) (hkl : k.length ≤ 140737488353000) (h : SlL w lo 22 v ls) (hsum : ls.flatten.length ≤ 140737488353000) : Rets Tryd.prog 43 [kv, v] w (fun r w' => OwnB w' w.heap.size r (hmacL k ls) ∧ Keep [] w w') := by
  obtain ⟨us, h1, h2, h3⟩ := h
  have h4 := h3.rd
  rw [← h1] at h4
  exact lQ kv v k us ls w hT hk hkl h4 h2 hsum
theorem ld (kv v : Value) (k t : List UInt8) (w : World) (hT : Tabs w) (hk : RdB w kv k) (hkl : k.length ≤ 140737488353000) (ht : RdB w v t) (htl : t.length ≤ 140737488353000) : Rets Tryd.prog 19 [kv, v] w (fun r w' => OwnB w' w.heap.size r (hmacB k t) ∧ Keep [] w w') := by
 have hB : Keep [] w w := Keep.refl _ _
 refine ad Tryd.func19 rfl (by decide) Tryd.ntmps19 rfl (fun fin _ hfin => ?_)
 refine aY (aX (oga rfl rfl (aZ (aY (aX (ogm rfl rfl ?_))))))
 refine ogm rfl rfl (ah (dG (m := 1) (ls := [t]) (xs := [.tmp 6]) (us := [_]) aJ az rfl rfl (bA (by first | exact Rd.nil _ _ | exact (by first | assumption | exact Own.rd ‹_› | exact Rd.lh ‹_› hB | exact Own.rd (Own.lh ‹_› hB))) (bt _)) rfl rfl) rfl ?_)
 rintro v1 w1 ⟨sl1, k1⟩
 replace hB := hB.trans k1
 refine ah (a7 (vs := [_, _]) rfl (kc _ _ k [t] _ (hT.lh hB) (hk.lh hB) hkl ‹_› (by rw [List.flatten_singleton]; exact htl))) rfl ?_
 rintro v2 w2 ⟨o2, k2⟩
 have gl_o2 := hB.size
 replace sl1 := sl1.lh k2
 replace hB := hB.trans k2
 refine oga rfl rfl (aZ (af hfin Tryd.results19 rfl ?_))
 exact ⟨by rw [← hmacL_1]; exact o2.lo gl_o2, hB⟩
theorem ii (kv : Value) (k : List UInt8) (x : UInt8) (w : World) (hk : RdB w kv k) (hkl : k.length ≤ 140737488353000) : Rets Tryd.prog 47 [kv, .int .u8 (x.toNat : Int)] w (fun r w' => OwnB w' w.heap.size r (padK (keyK k) x) ∧ Keep [] w w') := by
 have hB : Keep [] w w := Keep.refl _ _
 refine ad Tryd.func47 rfl (by decide) Tryd.ntmps47 rfl (fun fin _ hfin => ?_)
 refine aY (aX (oga rfl rfl (aZ (aY (aX (ogm rfl rfl ?_))))))
 refine oga rfl rfl (aZ (aY (aY (aX (ogm rfl rfl (a4 (bI aA rfl (by first | assumption | exact Own.rd ‹_› | exact Rd.lh ‹_› hB | exact Own.rd (Own.lh ‹_› hB))) rfl ?_))))))
 refine a4 (dr rfl rfl) rfl ?_
 refine aZ (ar rfl (fun hc1 => ?_) (fun hc1 => ?_))
 ·
  refine aX (ogm rfl rfl (ah (a7 (vs := [_]) rfl (eo _ k _ (hk.lh hB) (by omega))) rfl ?_))
  rintro v1 w1 ⟨o1, k1⟩
  have gl_o1 := hB.size
  replace hB := hB.trans k1
  have u_o1 := o1.blk
  refine oga rfl rfl (aZ (aY (aX (ah (d_mk aA bu rfl rfl (by omega) (by constructor <;> omega)) rfl ?_))))
  rintro v2 w2 ⟨o2, nn1, lb1, k2, z1⟩
  have lb6 := fun y hy => (o2.blk y hy).1
  have gl_o2 := hB.size
  replace o1 := o1.lh k2
  replace hB := hB.trans k2
  replace o2 : OwnB w2 w.heap.size v2 (List.replicate 64 0) := by have h9 := o2.lo (show w.heap.size ≤ _ by have := hB.size; omega); unfold OwnB; rw [List.length_replicate, ← im]; exact h9
  refine oga rfl rfl (aZ (aY (aY (aX (oga rfl rfl (aZ ?_))))))
  refine ag ?_
  have hKl : (dD k).length ≤ 64 := by rw [db]; decide
  have hpl := cw hKl x
  have gk_ := o1.lo gl_o1
  refine bT (Γ := Nat × Value) (fun ⟨i, o⟩ => [(1, .int .u8 (x.toNat : Int)), (5, v1), (6, o), (7, .int .i64 (i : Int))]) (fun ⟨i, o⟩ W => i ≤ 64 ∧ OwnB W w.heap.size o ((padK (dD k) x).take i ++ List.replicate (64 - i) 0) ∧ (∀ y, y ∈ vblk v1 → y ∉ vblk o) ∧ OwnB W w.heap.size v1 (dD k) ∧ Keep [] w W) (fun ⟨i, o⟩ => 64 - i) ⟨0, v2⟩ ⟨rfl, rfl, rfl, rfl, trivial⟩ (⟨by omega, by rw [List.take_zero, List.nil_append]; exact o2, (fun y hy hm => by have h1 := (u_o1 y hy).2; have h2 := lb6 y hm; omega), gk_, hB⟩) ?_
  rintro ⟨i, o⟩ w3 ⟨hi0, ow, hap, ok9, hB⟩
  refine ab [(1, .int .u8 (x.toNat : Int)), (5, v1), (6, o), (7, .int .i64 (i : Int))] ⟨rfl, rfl, rfl, rfl, trivial⟩ ?_
  have hol : ((padK (dD k) x).take i ++ List.replicate (64 - i) 0).length = 64 := by rw [List.length_append, List.length_take, List.length_replicate]; omega
  refine aY (aY (aX (ogm rfl rfl (a4 (bO rfl rfl) rfl ?_))))
  refine aZ (ar rfl (fun hc2 => ?_) (fun hc2 => ?_))
  ·
   refine a8 (aY (ag (aY (aX (ogm rfl rfl (ogm rfl rfl ?_))))))
   refine ogm rfl rfl (a4 (aw (v' := .pointer (some (ea o i))) (bR aA bu rfl (ow.rd) rfl (by rw [hol]; omega)) (by rw [Int.toNat_natCast, Nat.mul_one])) rfl ?_)
   refine am (js (xs := ((padK (dD k) x).take i ++ List.replicate (64 - i) 0)) (x) bu rfl rfl rfl ow (by rw [hol]; omega)) ?_
   rintro _ w4 ⟨o3, k3, _⟩
   replace hB := hB.new k3 (fun y hy => .inl (ow.blk y hy).1)
   replace ok9 := ok9.keep k3 (fun y hy hm => hap y hy hm)
   refine aZ (aY (aX (ogm rfl rfl (ogm rfl rfl (a4 (bI aA rfl ok9.rd) rfl ?_)))))
   refine a4 (bO rfl rfl) rfl ?_
   refine aZ (ar rfl (fun hc3 => ?_) (fun hc3 => ?_))
   ·
    refine aX (ogm rfl rfl (ogm rfl rfl (ogm rfl rfl (ogm rfl rfl (a4 (bR aA bu rfl ok9.rd rfl (by omega)) rfl ?_)))))
    obtain ⟨c, hc⟩ : ∃ c, (dD k)[i]? = some c := ⟨_, List.getElem?_eq_getElem (by omega)⟩
    have hgc : gb (dD k) (i : Int) = (c.toNat : Int) := by unfold gb; rw [List.getD_eq_getElem?_getD, Int.toNat_natCast, hc]; rfl
    refine a4 (aw (v' := .int .u8 (c.toNat : Int)) (eK jR rfl ok9.rd (by omega)) (by rw [hgc])) rfl ?_
    refine ogm rfl rfl (a4 (aw (v' := .int .u8 ((c ^^^ x).toNat : Int)) (iz rfl rfl) (by rw [xor8])) rfl ?_)
    refine a4 (aw (v' := .pointer (some (ea o i))) (bR aA bu rfl (o3.rd) rfl (by rw [List.length_set, hol]; omega)) (by rw [Int.toNat_natCast, Nat.mul_one])) rfl ?_
    refine am (js (xs := (((padK (dD k) x).take i ++ List.replicate (64 - i) 0).set i x)) (c ^^^ x) bu rfl rfl rfl o3 (by rw [List.length_set, hol]; omega)) ?_
    rintro _ w5 ⟨o4, k4, _⟩
    replace hB := hB.new k4 (fun y hy => .inl (o3.blk y hy).1)
    replace ok9 := ok9.keep k4 (fun y hy hm => hap y hy hm)
    refine aZ (ab [(1, _), (5, _), (6, _), (7, _)] ⟨rfl, rfl, rfl, rfl, trivial⟩ ?_)
    refine bg (aX (ogm rfl rfl (a4 (br rfl rfl (by omega)) rfl ?_)))
    refine oga rfl rfl (aZ (bd (Γ := Nat × Value) ⟨i + 1, o⟩ ⟨rfl, rfl, rfl, rfl, trivial⟩ (by (try dsimp only); omega) (⟨by omega, (by have h9 := o4; rw [List.set_set, fG (by rw [gM (by omega), dif_pos (show i < (dD k).length by omega)]; rw [List.getElem?_eq_getElem (show i < (dD k).length by omega)] at hc; rw [Option.some.inj hc]) hpl] at h9; exact h9), hap, ok9, hB⟩)))
   ·
    refine a8 (bg (aX (ogm rfl rfl (a4 (br rfl rfl (by omega)) rfl ?_))))
    refine oga rfl rfl (aZ (ab [(1, _), (5, _), (6, _), (7, _)] ⟨rfl, rfl, rfl, rfl, trivial⟩ ?_))
    refine bd (Γ := Nat × Value) ⟨i + 1, o⟩ ⟨rfl, rfl, rfl, rfl, trivial⟩ (by (try dsimp only); omega) (⟨by omega, (by have h9 := o3; rw [fG (by rw [gM (by omega), dif_neg (show ¬ i < (dD k).length by omega)]) hpl] at h9; exact h9), hap, ok9, hB⟩)
  ·
   refine bN rfl ?_
   refine aY (aX (ogm rfl rfl (oga rfl rfl (aZ (af hfin Tryd.results47 rfl ?_)))))
   obtain rfl : i = 64 := by omega
   rw [Nat.sub_self, List.replicate_zero, List.append_nil, List.take_of_length_le (by omega)] at ow
   refine ⟨?_, hB⟩
   rw [show keyK k = (dD k) from if_pos (by omega)]; exact ow
 ·
  refine a8 (aY (aX (ah (d_mk aA bu rfl rfl (by omega) (by constructor <;> omega)) rfl ?_)))
  rintro v3 w6 ⟨o5, nn2, lb2, k5, z2⟩
  have lb6 := fun y hy => (o5.blk y hy).1
  have gl_o5 := hB.size
  replace hB := hB.trans k5
  replace o5 : OwnB w6 w.heap.size v3 (List.replicate 64 0) := by have h9 := o5.lo (show w.heap.size ≤ _ by have := hB.size; omega); unfold OwnB; rw [List.length_replicate, ← im]; exact h9
  refine oga rfl rfl (aZ (aY (aY (aX (oga rfl rfl (aZ ?_))))))
  refine ag ?_
  have hKl : k.length ≤ 64 := by omega
  have hpl := cw hKl x
  refine bT (Γ := Nat × Value) (fun ⟨i, o⟩ => [(1, .int .u8 (x.toNat : Int)), (5, kv), (6, o), (7, .int .i64 (i : Int))]) (fun ⟨i, o⟩ W => i ≤ 64 ∧ OwnB W w.heap.size o ((padK k x).take i ++ List.replicate (64 - i) 0) ∧ Keep [] w W) (fun ⟨i, o⟩ => 64 - i) ⟨0, v3⟩ ⟨rfl, rfl, rfl, rfl, trivial⟩ (⟨by omega, by rw [List.take_zero, List.nil_append]; exact o5, hB⟩) ?_
  rintro ⟨i, o⟩ w7 ⟨hi0, ow, hB⟩
  refine ab [(1, .int .u8 (x.toNat : Int)), (5, kv), (6, o), (7, .int .i64 (i : Int))] ⟨rfl, rfl, rfl, rfl, trivial⟩ ?_
  have hol : ((padK k x).take i ++ List.replicate (64 - i) 0).length = 64 := by rw [List.length_append, List.length_take, List.length_replicate]; omega
  refine aY (aY (aX (ogm rfl rfl (a4 (bO rfl rfl) rfl ?_))))
  refine aZ (ar rfl (fun hc4 => ?_) (fun hc4 => ?_))
  ·
   refine a8 (aY (ag (aY (aX (ogm rfl rfl (ogm rfl rfl ?_))))))
   refine ogm rfl rfl (a4 (aw (v' := .pointer (some (ea o i))) (bR aA bu rfl (ow.rd) rfl (by rw [hol]; omega)) (by rw [Int.toNat_natCast, Nat.mul_one])) rfl ?_)
   refine am (js (xs := ((padK k x).take i ++ List.replicate (64 - i) 0)) (x) bu rfl rfl rfl ow (by rw [hol]; omega)) ?_
   rintro _ w8 ⟨o6, k6, _⟩
   replace hB := hB.new k6 (fun y hy => .inl (ow.blk y hy).1)
   refine aZ (aY (aX (ogm rfl rfl (ogm rfl rfl (a4 (bI aA rfl (hk.lh hB)) rfl ?_)))))
   refine a4 (bO rfl rfl) rfl ?_
   refine aZ (ar rfl (fun hc5 => ?_) (fun hc5 => ?_))
   ·
    refine aX (ogm rfl rfl (ogm rfl rfl (ogm rfl rfl (ogm rfl rfl (a4 (bR aA bu rfl (hk.lh hB) rfl (by omega)) rfl ?_)))))
    obtain ⟨c, hc⟩ : ∃ c, k[i]? = some c := ⟨_, List.getElem?_eq_getElem (by omega)⟩
    have hgc : gb k (i : Int) = (c.toNat : Int) := by unfold gb; rw [List.getD_eq_getElem?_getD, Int.toNat_natCast, hc]; rfl
    refine a4 (aw (v' := .int .u8 (c.toNat : Int)) (eK jR rfl (hk.lh hB) (by omega)) (by rw [hgc])) rfl ?_
    refine ogm rfl rfl (a4 (aw (v' := .int .u8 ((c ^^^ x).toNat : Int)) (iz rfl rfl) (by rw [xor8])) rfl ?_)
    refine a4 (aw (v' := .pointer (some (ea o i))) (bR aA bu rfl (o6.rd) rfl (by rw [List.length_set, hol]; omega)) (by rw [Int.toNat_natCast, Nat.mul_one])) rfl ?_
    refine am (js (xs := (((padK k x).take i ++ List.replicate (64 - i) 0).set i x)) (c ^^^ x) bu rfl rfl rfl o6 (by rw [List.length_set, hol]; omega)) ?_
    rintro _ w9 ⟨o7, k7, _⟩
    replace hB := hB.new k7 (fun y hy => .inl (o6.blk y hy).1)
    refine aZ (ab [(1, _), (5, _), (6, _), (7, _)] ⟨rfl, rfl, rfl, rfl, trivial⟩ ?_)
    refine bg (aX (ogm rfl rfl (a4 (br rfl rfl (by omega)) rfl ?_)))
    refine oga rfl rfl (aZ (bd (Γ := Nat × Value) ⟨i + 1, o⟩ ⟨rfl, rfl, rfl, rfl, trivial⟩ (by (try dsimp only); omega) (⟨by omega, (by have h9 := o7; rw [List.set_set, fG (by rw [gM (by omega), dif_pos (show i < k.length by omega)]; rw [List.getElem?_eq_getElem (show i < k.length by omega)] at hc; rw [Option.some.inj hc]) hpl] at h9; exact h9), hB⟩)))
   ·
    refine a8 (bg (aX (ogm rfl rfl (a4 (br rfl rfl (by omega)) rfl ?_))))
    refine oga rfl rfl (aZ (ab [(1, _), (5, _), (6, _), (7, _)] ⟨rfl, rfl, rfl, rfl, trivial⟩ ?_))
    refine bd (Γ := Nat × Value) ⟨i + 1, o⟩ ⟨rfl, rfl, rfl, rfl, trivial⟩ (by (try dsimp only); omega) (⟨by omega, (by have h9 := o6; rw [fG (by rw [gM (by omega), dif_neg (show ¬ i < k.length by omega)]) hpl] at h9; exact h9), hB⟩)
  ·
   refine bN rfl ?_
   refine aY (aX (ogm rfl rfl (oga rfl rfl (aZ (af hfin Tryd.results47 rfl ?_)))))
   obtain rfl : i = 64 := by omega
   rw [Nat.sub_self, List.replicate_zero, List.append_nil, List.take_of_length_le (by omega)] at ow
   refine ⟨?_, hB⟩
   rw [show keyK k = k from if_neg (by omega)]; exact ow
theorem kT (kv v : Value) (k t : List UInt8) (w : World) (hk : RdB w kv k) (hkl : k.length ≤ 140737488353000) (ht : RdB w v t) (htl : t.length ≤ 140737488353000) : Rets Tryd.prog 23 [kv, v] w (fun r w' => OwnB w' w.heap.size r (hmacB k t) ∧ Keep [] w w') := by
 have hB : Keep [] w w := Keep.refl _ _
 refine ad Tryd.func23 rfl (by decide) Tryd.ntmps23 rfl (fun fin _ hfin => ?_)
 refine aY (aX (oga rfl rfl (aZ (aY (aX (ogm rfl rfl ?_))))))
 refine ah (a7 (vs := [_, _]) rfl (ii _ k 54 _ (hk.lh hB) hkl)) rfl ?_
 rintro v1 w1 ⟨o1, k1⟩
 have gl_o1 := hB.size
 replace hB := hB.trans k1
 refine ogm rfl rfl ?_
 replace o1 := o1.lo gl_o1
 refine ah (bS (xs := padK (keyK k) 54) (ys := t) aA bu rfl o1 rfl (ht.lh hB) (by rw [cw (gO k)]; omega) (by have := hB.size; omega)) rfl ?_
 rintro v2 w2 ⟨o2, k2, _, _⟩
 replace hB := hB.new k2 (fun x hx => .inl (o1.blk x hx).1)
 replace o2 : OwnB w2 w.heap.size v2 (padK (keyK k) 54 ++ t) := by unfold OwnB; rw [List.length_append]; exact o2
 refine ah (a7 (vs := [_]) rfl (eo _ (padK (keyK k) 54 ++ t) _ o2.rd (by rw [List.length_append, cw (gO k)]; omega))) rfl ?_
 rintro v3 w3 ⟨o3, k3⟩
 have gl_o3 := hB.size
 replace hB := hB.trans k3
 refine oga rfl rfl (aZ (aY (aX (ogm rfl rfl (ah (a7 (vs := [_, _]) rfl (ii _ k 92 _ (hk.lh hB) hkl)) rfl ?_)))))
 rintro v4 w4 ⟨o4, k4⟩
 have gl_o4 := hB.size
 replace o3 := o3.lh k4
 replace hB := hB.trans k4
 refine ogm rfl rfl ?_
 have hoi : OwnB _ _ _ (dD (padK (keyK k) 54 ++ t)) := o3
 replace o4 := o4.lo gl_o4
 refine ah (bS (xs := padK (keyK k) 92) (ys := dD (padK (keyK k) 54 ++ t)) aA bu rfl o4 rfl o3.rd (by rw [cw (gO k), db]; decide) (by have := hB.size; omega)) rfl ?_
 rintro v5 w5 ⟨o5, k5, _, _⟩
 replace hB := hB.new k5 (fun x hx => .inl (o4.blk x hx).1)
 replace o5 : OwnB w5 w.heap.size v5 (padK (keyK k) 92 ++ dD (padK (keyK k) 54 ++ t)) := by unfold OwnB; rw [List.length_append]; exact o5
 refine ah (a7 (vs := [_]) rfl (eo _ (padK (keyK k) 92 ++ dD (padK (keyK k) 54 ++ t)) _ o5.rd (by rw [List.length_append, cw (gO k), db]; decide))) rfl ?_
 rintro v6 w6 ⟨o6, k6⟩
 have gl_o6 := hB.size
 replace hB := hB.trans k6
 refine oga rfl rfl (aZ (ab [(4, _)] ⟨rfl, trivial⟩ ?_))
 refine af hfin Tryd.results23 rfl ?_
 exact ⟨o6.lo gl_o6, hB⟩
structure Fm where
  gs : List UInt8
  ep : Int
  fr : Int
  lf : Int
  ms : List UInt8
  kd : Int
  bs : List UInt8
  wi : Int
  ss : List UInt8
  cs : List UInt8
def fJ : Fm := ⟨[], 0, 0, 0, [], 0, [], 0, [], []⟩
def cOk (x : Fm) : Bool := rightB x.gs x.ep x.fr x.lf x.ms x.kd x.bs
def cB (x : Fm) : List UInt8 := cBytes x.gs x.ep x.fr x.lf x.ms x.kd x.bs
def wOk (x : Fm) : Bool := decide (x.wi = 1) && decide (x.kd ≠ 1) || decide (x.wi = 2) && decide (x.fr = 1)
def sOk (x : Fm) : Bool := cOk x && wOk x && decide ((x.ss.length : Int) = 64) && decide ((x.cs.length : Int) = if x.kd = 3 then 32 else 0)
def endB (x : Fm) : List UInt8 := if x.kd = 3 then vecsB [x.ss, x.cs] else vecsB [x.ss]
def txE (x : Fm) (wi : Int) (ctx : List UInt8) : Int := bif cOk x && (decide (wi = 1) || decide (wi = 2)) then (if 2000 < ctx.length then 6 else 0) else 1
def txT (x : Fm) (wi : Int) (ctx : List UInt8) : List UInt8 := [numB (bitsOf 2) 1 2, numB (bitsOf 2) wi 2, cB x, ctx].flatten
def txB (x : Fm) (wi : Int) (ctx : List UInt8) : List UInt8 := if txE x wi ctx = 0 then txT x wi ctx else []
def tgE (x : Fm) (ctx : List UInt8) : Int := bif sOk x && decide (x.wi = 1) then (if 2000 < ctx.length then 6 else 0) else 1
def tgB (x : Fm) (mem ctx : List UInt8) : List UInt8 := if tgE x ctx = 0 then hmacB mem (txT x 1 ctx ++ endB x) else []
def ppT (x : Fm) (mem ctx : List UInt8) : List UInt8 := [numB (bitsOf 2) 1 2, numB (bitsOf 2) 1 2, cB x, endB x].flatten ++ (if x.fr = 1 then vecsB [tgB x mem ctx] else [])
def ppB (x : Fm) (mem ctx : List UInt8) : List UInt8 := if tgE x ctx = 0 then ppT x mem ctx else []
theorem gR {x : Fm} (h : cOk x = true) : x.gs.length ≤ 65536 ∧ x.ms.length ≤ 65536 ∧ x.bs.length ≤ 65536 := ga h
theorem dP {x : Fm} (h : sOk x = true) : cOk x = true ∧ wOk x = true ∧ x.ss.length = 64 ∧ (x.cs.length = if x.kd = 3 then 32 else 0) := by
 unfold sOk at h
 simp only [Bool.and_eq_true, decide_eq_true_eq] at h
 obtain ⟨⟨⟨h1, h2⟩, h3⟩, h4⟩ := h
 refine ⟨h1, h2, by omega, ?_⟩
 split at h4
 · rw [if_pos ‹_›]; omega
 · rw [if_neg ‹_›]; omega
theorem kt {x : Fm} {ctx : List UInt8} (h : tgE x ctx = 0) : sOk x = true ∧ x.wi = 1 ∧ ctx.length ≤ 2000 := by
 unfold tgE at h
 cases hq : (sOk x && decide (x.wi = 1)) with
 | false => rw [hq, cond_false] at h; exact absurd h (by decide)
 | true =>
   rw [hq, cond_true] at h
   rw [Bool.and_eq_true, decide_eq_true_eq] at hq
   split at h
   · exact absurd h (by decide)
   · exact ⟨hq.1, hq.2, by omega⟩
theorem tx_ok {x : Fm} {wi : Int} {ctx : List UInt8} (h : txE x wi ctx = 0) : cOk x = true ∧ (wi = 1 ∨ wi = 2) ∧ ctx.length ≤ 2000 := by
 unfold txE at h
 cases hq : (cOk x && (decide (wi = 1) || decide (wi = 2))) with
 | false => rw [hq, cond_false] at h; exact absurd h (by decide)
 | true =>
   rw [hq, cond_true] at h
   rw [Bool.and_eq_true, Bool.or_eq_true, decide_eq_true_eq, decide_eq_true_eq] at hq
   split at h
   · exact absurd h (by decide)
   · exact ⟨hq.1, hq.2, by omega⟩
theorem jt {x : Fm} : (cB x).length ≤ 400000 := by
 have h1 := @eD x.gs; have h2 := @eD x.ms; have h3 := @eD x.bs
 have h4 := cu (bitsOf 8) x.ep 8 (by decide); have h5 := cu (bitsOf 1) x.fr 1 (by decide); have h6 := cu (bitsOf 4) x.lf 4 (by decide); have h7 := cu (bitsOf 1) x.kd 1 (by decide)
 have h8 : (if x.fr = 1 then numB (bitsOf 4) x.lf 4 else []).length ≤ 8 := by split <;> simp [h6]
 simp only [cB, cBytes, List.flatten_cons, List.flatten_nil, List.length_append, List.length_nil]; omega
theorem jx {a b : List UInt8} : (vecsB [a, b]).length ≤ 200000 := by
 unfold vecsB; split
 · rename_i h
   have h1 := h a (by simp); have h2 := h b (by simp); have h3 := cn a; have h4 := cn b
   simp only [vecs, List.flatMap_cons, List.flatMap_nil, List.append_nil, List.length_append]; omega
 · simp
theorem gQ {x : Fm} : (endB x).length ≤ 200000 := by
 unfold endB; split
 · exact jx
 · have := @eD x.ss; omega
theorem jO {x : Fm} {wi : Int} {ctx : List UInt8} (h : ctx.length ≤ 2000) : (txT x wi ctx).length ≤ 500000 := by
 have h1 := cu (bitsOf 2) 1 2 (by decide); have h2 := cu (bitsOf 2) wi 2 (by decide); have h3 := @jt x
 simp only [txT, List.flatten_cons, List.flatten_nil, List.length_append, List.length_nil]; omega
theorem i5 {a : List UInt8} (h : a.length ≤ 65536) : (vecs [a]).length ≤ 140737488355328 := dy h
theorem ki {a b : List UInt8} (h : a.length ≤ 65536) (h2 : b.length ≤ 65536) : (vecs [a, b]).length ≤ 140737488355328 := by
 have h3 := cn a; have h4 := cn b
 simp only [vecs, List.flatMap_cons, List.flatMap_nil, List.append_nil, List.length_append]; omega
def rH (c : List UInt8) := rNum 32 c 0 4
def rG (c : List UInt8) := rVec (rH c).2.1 (rH c).2.2
def rEp (c : List UInt8) := rNum 62 (rG c).2.1 (rG c).2.2 8
def rFr (c : List UInt8) := rNum 8 (rEp c).2.1 (rEp c).2.2 1
def rLf (c : List UInt8) : Int × List UInt8 × Int := if (rFr c).1 = 1 then rNum 32 (rFr c).2.1 (rFr c).2.2 4 else (0, (rFr c).2)
def rM (c : List UInt8) := rVec (rLf c).2.1 (rLf c).2.2
def rKd (c : List UInt8) := rNum 8 (rM c).2.1 (rM c).2.2 1
def rB (c : List UInt8) := rVec (rKd c).2.1 (rKd c).2.2
def rS (c : List UInt8) := rVec (rB c).2.1 (rB c).2.2
def rC (c : List UInt8) : List UInt8 × List UInt8 × Int := if (rKd c).1 = 3 then rVec (rS c).2.1 (rS c).2.2 else ([], (rS c).2)
def rT (c : List UInt8) : List UInt8 × List UInt8 × Int := if (rFr c).1 = 1 then rVec (rC c).2.1 (rC c).2.2 else ([], (rC c).2)
def rX (c : List UInt8) : Fm := ⟨(rG c).1, (rEp c).1, (rFr c).1, (rLf c).1, (rM c).1, (rKd c).1, (rB c).1, 1, (rS c).1, (rC c).1⟩
def gpOkP (c : List UInt8) : Bool := (decide ((rH c).1 = 65537) && decide (rEnd (rT c).2.1 (rT c).2.2 = 0)) && sOk (rX c) && (!decide ((rFr c).1 = 1) || decide (((rT c).1.length : Int) = 32))
def gpX (c : List UInt8) : Fm := bif gpOkP c then rX c else fJ
def gpT (c : List UInt8) : List UInt8 := bif gpOkP c then (rT c).1 else []
def gpF (c : List UInt8) : Int := bif gpOkP c then 0 else 21
theorem fpLen (c : List UInt8) : (rH c).2.1.length ≤ c.length ∧ (rG c).2.1.length ≤ c.length ∧ (rEp c).2.1.length ≤ c.length ∧ (rFr c).2.1.length ≤ c.length ∧ (rLf c).2.1.length ≤ c.length ∧ (rM c).2.1.length ≤ c.length ∧ (rKd c).2.1.length ≤ c.length ∧ (rB c).2.1.length ≤ c.length ∧ (rS c).2.1.length ≤ c.length ∧ (rC c).2.1.length ≤ c.length := by
 have h1 : (rH c).2.1.length ≤ c.length := et _ _ _ _
 have h2 : (rG c).2.1.length ≤ c.length := Nat.le_trans (er _ _) h1
 have h3 : (rEp c).2.1.length ≤ c.length := Nat.le_trans (et _ _ _ _) h2
 have h4 : (rFr c).2.1.length ≤ c.length := Nat.le_trans (et _ _ _ _) h3
 have h5 : (rLf c).2.1.length ≤ c.length := by
   unfold rLf; split
   · exact Nat.le_trans (et _ _ _ _) h4
   · exact h4
 have h6 : (rM c).2.1.length ≤ c.length := Nat.le_trans (er _ _) h5
 have h7 : (rKd c).2.1.length ≤ c.length := Nat.le_trans (et _ _ _ _) h6
 have h8 : (rB c).2.1.length ≤ c.length := Nat.le_trans (er _ _) h7
 have h9 : (rS c).2.1.length ≤ c.length := Nat.le_trans (er _ _) h8
 have h10 : (rC c).2.1.length ≤ c.length := by
   unfold rC; split
   · exact Nat.le_trans (er _ _) h9
   · exact h9
 exact ⟨h1, h2, h3, h4, h5, h6, h7, h8, h9, h10⟩
theorem fR (g m b : Value) (x : Fm) (w : World) (hg : RdB w g x.gs) (hm : RdB w m x.ms) (hb : RdB w b x.bs) : Rets Tryd.prog 59 [.agg [g, .int .i64 x.ep, .int .i64 x.fr, .int .i64 x.lf, m, .int .i64 x.kd, b].toArray] w (fun v w' => v = .bool (cOk x) ∧ Keep [] w w') := hP g m b x.gs x.ms x.bs x.ep x.fr x.lf x.kd w hg hm hb
theorem ci (g m b sg cf : Value) (x : Fm) (w : World) (hg : RdB w g x.gs) (hm : RdB w m x.ms) (hb : RdB w b x.bs) (hs : RdB w sg x.ss) (hc : RdB w cf x.cs) : Rets Tryd.prog 35 [.agg [g, .int .i64 x.ep, .int .i64 x.fr, .int .i64 x.lf, m, .int .i64 x.kd, b, .int .i64 x.wi, sg, cf].toArray] w (fun v w' => v = .bool (sOk x) ∧ Keep [] w w') := by
 have hB : Keep [] w w := Keep.refl _ _
 refine ad Tryd.func35 rfl (by decide) Tryd.ntmps35 rfl (fun fin _ hfin => ?_)
 refine aY (aX (ah (bz (cs := [g, .int .i64 x.ep, .int .i64 x.fr, .int .i64 x.lf, m, .int .i64 x.kd, b, .int .i64 x.wi, sg, cf]) rfl rfl) rfl ?_))
 rintro _ w1 ⟨b1, rfl, eb1, hb1, k1, z1⟩
 have ge_b1 : w.heap.size ≤ b1 := by have := hB.size; omega
 replace hB := hB.trans k1
 clear eb1 z1
 refine oga rfl rfl (aZ (aY (aX (a4 (aj 0 aN rfl dd (by decide) rfl rfl) rfl ?_))))
 refine a4 (an (cs' := [_, _, _, _, _, _, _]) fx dd rfl hb1 rfl rfl) rfl ?_
 refine ah (cI dd) rfl ?_
 rintro _ w2 ⟨b2, rfl, eb2, hb2, k2, z2⟩
 have ge_b2 : w.heap.size ≤ b2 := by have := hB.size; omega
 have ne_b1_b2 : b1 ≠ b2 := by have := hb1.lt; omega
 replace hb1 := hb1.lh k2
 replace hB := hB.trans k2
 clear eb2 z2
 refine am (bU dd rfl rfl rfl (by simp only [List.forall_mem_cons]; refine ⟨(by first | rfl | exact Rd.one (by first | assumption | exact Own.rd ‹_› | exact Rd.lh ‹_› hB | exact Own.rd (Own.lh ‹_› hB))), (by first | rfl | exact Rd.one (by first | assumption | exact Own.rd ‹_› | exact Rd.lh ‹_› hB | exact Own.rd (Own.lh ‹_› hB))), (by first | rfl | exact Rd.one (by first | assumption | exact Own.rd ‹_› | exact Rd.lh ‹_› hB | exact Own.rd (Own.lh ‹_› hB))), (by first | rfl | exact Rd.one (by first | assumption | exact Own.rd ‹_› | exact Rd.lh ‹_› hB | exact Own.rd (Own.lh ‹_› hB))), (by first | rfl | exact Rd.one (by first | assumption | exact Own.rd ‹_› | exact Rd.lh ‹_› hB | exact Own.rd (Own.lh ‹_› hB))), (by first | rfl | exact Rd.one (by first | assumption | exact Own.rd ‹_› | exact Rd.lh ‹_› hB | exact Own.rd (Own.lh ‹_› hB))), (by first | rfl | exact Rd.one (by first | assumption | exact Own.rd ‹_› | exact Rd.lh ‹_› hB | exact Own.rd (Own.lh ‹_› hB))), fun v hv => by cases hv⟩) hb2 rfl) ?_
 rintro _ w3 ⟨hb3, k3, z3⟩
 replace hb1 := hb1.keep k3 (nm ne_b1_b2)
 replace hB := hB.new k3 (nw ge_b2)
 clear z3
 replace hb3 : Bk w3 b2 _ [g, .int .i64 x.ep, .int .i64 x.fr, .int .i64 x.lf, m, .int .i64 x.kd, b] := hb3
 refine aZ (aY (aX (a4 (aj 7 aN rfl bJ (by decide) rfl rfl) rfl ?_)))
 refine a4 (ac bZ rfl hb1 rfl) rfl ?_
 refine a4 (bF rfl rfl) rfl ?_
 refine ogm rfl rfl (al 11 true rfl (fun c1 hgc1 => ?_))
 refine a5 [(3, _)] (aa rfl rfl rfl hgc1) ⟨au rfl, trivial⟩ (fun hw1 => aj 5 aD rfl bJ (by decide) rfl rfl) rfl ?_
 refine a5 [(12, _)] (aa rfl rfl rfl hgc1) ⟨ae rfl, trivial⟩ (fun hw2 => ac bZ rfl hb3 rfl) rfl ?_
 refine a5 [(13, _)] (aa rfl rfl rfl hgc1) ⟨ae rfl, trivial⟩ (fun hw3 => cC rfl rfl) rfl ?_
 refine a4 (ax rfl rfl hgc1) rfl ?_
 refine ogm rfl rfl (al 16 false rfl (fun c2 hgc2 => ?_))
 refine a5 [(1, _)] (aa rfl rfl rfl hgc2) ⟨au rfl, trivial⟩ (fun hw4 => aj 7 aN rfl bJ (by decide) rfl rfl) rfl ?_
 refine a5 [(17, _)] (aa rfl rfl rfl hgc2) ⟨ae rfl, trivial⟩ (fun hw5 => ac bZ rfl hb1 rfl) rfl ?_
 refine a5 [(18, _)] (aa rfl rfl rfl hgc2) ⟨ae rfl, trivial⟩ (fun hw6 => bF rfl rfl) rfl ?_
 refine a5 [(19, _)] (aa rfl rfl rfl hgc2) ⟨ae rfl, trivial⟩ (fun hw7 => av rfl) rfl ?_
 refine cl 20 true rfl (fun c3 hgc3 => ?_)
 refine a5 [(3, _)] (cc rfl rfl rfl hgc3) ⟨au rfl, trivial⟩ (fun hw8 => aj 2 aD rfl bJ (by decide) rfl rfl) rfl ?_
 refine a5 [(21, _)] (cc rfl rfl rfl hgc3) ⟨ae rfl, trivial⟩ (fun hw9 => ac bZ rfl hb3 rfl) rfl ?_
 refine a5 [(22, _)] (cc rfl rfl rfl hgc3) ⟨ae rfl, trivial⟩ (fun hw10 => bF rfl rfl) rfl ?_
 refine ck (aa rfl rfl rfl hgc2) (ae rfl) rfl hgc3 rfl ?_
 refine a4 (bi rfl rfl hgc2) rfl ?_
 refine oga rfl rfl (aZ (ab [(1, _), (3, _), (4, _)] ⟨rfl, rfl, rfl, trivial⟩ ?_))
 refine aY (aX (oga rfl rfl (aZ (aY (aY (aX ?_))))))
 refine a4 (aj 5 aD rfl bJ (by decide) rfl rfl) rfl ?_
 refine a4 (ac bZ rfl hb3 rfl) rfl ?_
 refine a4 (bF rfl rfl) rfl ?_
 refine aZ (ar rfl (fun hc1 => ?_) (fun hc1 => ?_))
 ·
  refine aX (oga rfl rfl (aZ (aY (aX (a4 (an (cs' := [_, _, _, _, _, _, _]) fx dd rfl hb3 rfl rfl) rfl ?_)))))
  refine ah (a7 (vs := [_]) rfl (fR g m b x _ (hg.lh hB) (hm.lh hB) (hb.lh hB))) rfl ?_
  rintro _ w4 ⟨rfl, k4⟩
  replace hb1 := hb1.lh k4
  replace hb3 := hb3.lh k4
  replace hB := hB.trans k4
  refine ogm rfl rfl (al 31 true rfl (fun c4 hgc4 => ?_))
  refine a5 [(4, _)] (aa rfl rfl rfl hgc4) ⟨au rfl, trivial⟩ (fun hw11 => av rfl) rfl ?_
  refine a4 (ax rfl rfl hgc4) rfl ?_
  refine ogm rfl rfl (al 34 true rfl (fun c5 hgc5 => ?_))
  refine a5 [(1, _)] (aa rfl rfl rfl hgc5) ⟨au rfl, trivial⟩ (fun hw12 => aj 8 aN rfl az (by decide) rfl rfl) rfl ?_
  refine a5 [(35, _)] (aa rfl rfl rfl hgc5) ⟨ae rfl, trivial⟩ (fun hw13 => ac ba rfl hb1 rfl) rfl ?_
  refine a5 [(36, _)] (aa rfl rfl rfl hgc5) ⟨ae rfl, trivial⟩ (fun hw14 => bI aA rfl (by first | assumption | exact Own.rd ‹_› | exact Rd.lh ‹_› hB | exact Own.rd (Own.lh ‹_› hB))) rfl ?_
  refine a5 [(37, _)] (aa rfl rfl rfl hgc5) ⟨ae rfl, trivial⟩ (fun hw15 => bF rfl rfl) rfl ?_
  refine a4 (ax rfl rfl hgc5) rfl ?_
  refine ogm rfl rfl (al 40 true rfl (fun c6 hgc6 => ?_))
  refine a5 [(1, _)] (aa rfl rfl rfl hgc6) ⟨au rfl, trivial⟩ (fun hw16 => aj 9 aN rfl az (by decide) rfl rfl) rfl ?_
  refine a5 [(41, _)] (aa rfl rfl rfl hgc6) ⟨ae rfl, trivial⟩ (fun hw17 => ac ba rfl hb1 rfl) rfl ?_
  refine a5 [(42, _)] (aa rfl rfl rfl hgc6) ⟨ae rfl, trivial⟩ (fun hw18 => bI aA rfl (by first | assumption | exact Own.rd ‹_› | exact Rd.lh ‹_› hB | exact Own.rd (Own.lh ‹_› hB))) rfl ?_
  refine a5 [(5, _)] (aa rfl rfl rfl hgc6) ⟨au rfl, trivial⟩ (fun hw19 => av rfl) rfl ?_
  refine a5 [(43, _), (44, _)] (aa rfl rfl rfl hgc6) ⟨ae rfl, ae rfl, trivial⟩ (fun hw20 => bF rfl rfl) rfl ?_
  refine a4 (ax rfl rfl hgc6) rfl ?_
  refine oga rfl rfl (aZ (ab [(2, _)] ⟨rfl, trivial⟩ ?_))
  refine af hfin Tryd.results35 rfl ?_
  refine ⟨?_, hB⟩
  unfold sOk wOk
  first | rw [if_pos hc1] | rw [if_neg hc1]
 ·
  refine a8 (aY (aX (a4 (an (cs' := [_, _, _, _, _, _, _]) fx dd rfl hb3 rfl rfl) rfl ?_)))
  refine ah (a7 (vs := [_]) rfl (fR g m b x _ (hg.lh hB) (hm.lh hB) (hb.lh hB))) rfl ?_
  rintro _ w5 ⟨rfl, k5⟩
  replace hb1 := hb1.lh k5
  replace hb3 := hb3.lh k5
  replace hB := hB.trans k5
  refine ogm rfl rfl (al 31 true rfl (fun c7 hgc7 => ?_))
  refine a5 [(4, _)] (aa rfl rfl rfl hgc7) ⟨au rfl, trivial⟩ (fun hw21 => av rfl) rfl ?_
  refine a4 (ax rfl rfl hgc7) rfl ?_
  refine ogm rfl rfl (al 34 true rfl (fun c8 hgc8 => ?_))
  refine a5 [(1, _)] (aa rfl rfl rfl hgc8) ⟨au rfl, trivial⟩ (fun hw22 => aj 8 aN rfl az (by decide) rfl rfl) rfl ?_
  refine a5 [(35, _)] (aa rfl rfl rfl hgc8) ⟨ae rfl, trivial⟩ (fun hw23 => ac ba rfl hb1 rfl) rfl ?_
  refine a5 [(36, _)] (aa rfl rfl rfl hgc8) ⟨ae rfl, trivial⟩ (fun hw24 => bI aA rfl (by first | assumption | exact Own.rd ‹_› | exact Rd.lh ‹_› hB | exact Own.rd (Own.lh ‹_› hB))) rfl ?_
  refine a5 [(37, _)] (aa rfl rfl rfl hgc8) ⟨ae rfl, trivial⟩ (fun hw25 => bF rfl rfl) rfl ?_
  refine a4 (ax rfl rfl hgc8) rfl ?_
  refine ogm rfl rfl (al 40 true rfl (fun c9 hgc9 => ?_))
  refine a5 [(1, _)] (aa rfl rfl rfl hgc9) ⟨au rfl, trivial⟩ (fun hw26 => aj 9 aN rfl az (by decide) rfl rfl) rfl ?_
  refine a5 [(41, _)] (aa rfl rfl rfl hgc9) ⟨ae rfl, trivial⟩ (fun hw27 => ac ba rfl hb1 rfl) rfl ?_
  refine a5 [(42, _)] (aa rfl rfl rfl hgc9) ⟨ae rfl, trivial⟩ (fun hw28 => bI aA rfl (by first | assumption | exact Own.rd ‹_› | exact Rd.lh ‹_› hB | exact Own.rd (Own.lh ‹_› hB))) rfl ?_
  refine a5 [(5, _)] (aa rfl rfl rfl hgc9) ⟨au rfl, trivial⟩ (fun hw29 => av rfl) rfl ?_
  refine a5 [(43, _), (44, _)] (aa rfl rfl rfl hgc9) ⟨ae rfl, ae rfl, trivial⟩ (fun hw30 => bF rfl rfl) rfl ?_
  refine a4 (ax rfl rfl hgc9) rfl ?_
  refine oga rfl rfl (aZ (ab [(2, _)] ⟨rfl, trivial⟩ ?_))
  refine af hfin Tryd.results35 rfl ?_
  refine ⟨?_, hB⟩
  unfold sOk wOk
  first | rw [if_pos hc1] | rw [if_neg hc1]
theorem gu (g m b sg cf : Value) (x : Fm) (w : World) (hs : RdB w sg x.ss) (hc : RdB w cf x.cs) (hsl : x.ss.length ≤ 65536) (hcl : x.cs.length ≤ 65536) : Rets Tryd.prog 20 [.agg [g, .int .i64 x.ep, .int .i64 x.fr, .int .i64 x.lf, m, .int .i64 x.kd, b, .int .i64 x.wi, sg, cf].toArray] w (fun v w' => OwnB w' w.heap.size v (endB x) ∧ Keep [] w w') := by
 have hB : Keep [] w w := Keep.refl _ _
 refine ad Tryd.func20 rfl (by decide) Tryd.ntmps20 rfl (fun fin _ hfin => ?_)
 refine aY (aX (ah (bz (cs := [g, .int .i64 x.ep, .int .i64 x.fr, .int .i64 x.lf, m, .int .i64 x.kd, b, .int .i64 x.wi, sg, cf]) rfl rfl) rfl ?_))
 rintro _ w1 ⟨b1, rfl, eb1, hb1, k1, z1⟩
 replace hB := hB.trans k1
 clear eb1 z1
 refine oga rfl rfl (aZ (aY (aY (aX (a4 (aj 0 aN rfl dd (by decide) rfl rfl) rfl ?_)))))
 refine a4 (aj 5 aD rfl bJ (by decide) rfl rfl) rfl ?_
 refine a4 (ac bZ rfl hb1 rfl) rfl ?_
 refine a4 (bF rfl rfl) rfl ?_
 refine aZ (ar rfl (fun hc1 => ?_) (fun hc1 => ?_))
 ·
  refine aY (aX (a4 (aj 8 aN rfl az (by decide) rfl rfl) rfl ?_))
  refine a4 (ac ba rfl hb1 rfl) rfl ?_
  refine a4 (aj 9 aN rfl az (by decide) rfl rfl) rfl ?_
  refine a4 (ac ba rfl hb1 rfl) rfl ?_
  refine ah (dG (m := 2) (ls := [x.ss, x.cs]) (xs := [.tmp 8, .tmp 10]) (us := [_, _]) aJ az rfl rfl (bA (by first | exact Rd.nil _ _ | exact (by first | assumption | exact Own.rd ‹_› | exact Rd.lh ‹_› hB | exact Own.rd (Own.lh ‹_› hB))) (bA (by first | exact Rd.nil _ _ | exact (by first | assumption | exact Own.rd ‹_› | exact Rd.lh ‹_› hB | exact Own.rd (Own.lh ‹_› hB))) (bt _))) rfl rfl) rfl ?_
  rintro v1 w2 ⟨sl1, k2⟩
  replace hb1 := hb1.lh k2
  replace hB := hB.trans k2
  refine ah (a7 (vs := [_]) rfl (cK _ [x.ss, x.cs] _ _ ‹_› (ki hsl hcl))) rfl ?_
  rintro v2 w3 ⟨o2, k3⟩
  have gl_o2 := hB.size
  replace hb1 := hb1.lh k3
  replace sl1 := sl1.lh k3
  replace hB := hB.trans k3
  refine oga rfl rfl (aZ (ab [(2, _)] ⟨rfl, trivial⟩ ?_))
  refine af hfin Tryd.results20 rfl ?_
  refine ⟨?_, hB⟩
  unfold endB
  first | rw [if_pos hc1] | rw [if_neg hc1]
  exact o2.lo gl_o2
 ·
  refine a8 (aY (aX (a4 (aj 8 aN rfl az (by decide) rfl rfl) rfl ?_)))
  refine a4 (ac ba rfl hb1 rfl) rfl ?_
  refine ah (dG (m := 1) (ls := [x.ss]) (xs := [.tmp 14]) (us := [_]) aJ az rfl rfl (bA (by first | exact Rd.nil _ _ | exact (by first | assumption | exact Own.rd ‹_› | exact Rd.lh ‹_› hB | exact Own.rd (Own.lh ‹_› hB))) (bt _)) rfl rfl) rfl ?_
  rintro v3 w4 ⟨sl2, k4⟩
  replace hb1 := hb1.lh k4
  replace hB := hB.trans k4
  refine ah (a7 (vs := [_]) rfl (cK _ [x.ss] _ _ ‹_› (i5 hsl))) rfl ?_
  rintro v4 w5 ⟨o4, k5⟩
  have gl_o4 := hB.size
  replace sl2 := sl2.lh k5
  replace hB := hB.trans k5
  refine oga rfl rfl (aZ (ab [(2, _)] ⟨rfl, trivial⟩ ?_))
  refine af hfin Tryd.results20 rfl ?_
  refine ⟨?_, hB⟩
  unfold endB
  first | rw [if_pos hc1] | rw [if_neg hc1]
  exact o4.lo gl_o4
end Go.Proofs.YtjfmmoonpdifcaaDoor.W
namespace Go.Eng
open Go Go.IntWalk
section
variable {α : Type}
theorem iF {s : Nat} : ∀ {css : List (List Value)} {i : Nat} {cs : List Value}, (∀ c ∈ css, c.length = s) → css[i]? = some cs → (css.flatten.drop (i * s)).take s = cs
 | [], i, cs, _, h => by simp at h
 | c :: r, 0, cs, hl, h => by
   simp at h; subst h
   have := hl c (by simp)
   simp only [Nat.zero_mul, List.drop_zero, List.flatten_cons]
   rw [List.take_append_of_le_length (by omega), ← this, List.take_length]
 | c :: r, i + 1, cs, hl, h => by
   simp at h
   have h1 := hl c (by simp)
   have ih := iF (s := s) (fun c hc => hl c (by simp [hc])) h
   rw [List.flatten_cons, Nat.add_mul, Nat.one_mul, Nat.add_comm, ← List.drop_drop, List.drop_left' h1]
   exact ih
def Els (s : Nat) (E : List Value → α → Prop) (css : List (List Value)) (xs : List α) : Prop := css.length = xs.length ∧ (∀ c ∈ css, c.length = s) ∧ ∀ (i : Nat) cs x, css[i]? = some cs → xs[i]? = some x → E cs x
theorem Els.mono {s : Nat} {E E' : List Value → α → Prop} {css : List (List Value)} {xs : List α} (h : Els s E css xs) (hm : ∀ cs x, E cs x → E' cs x) : Els s E' css xs := ⟨h.1, h.2.1, fun i cs x h1 h2 => hm _ _ (h.2.2 i cs x h1 h2)⟩
def RdE (w : World) (s : Nat) (E : List Value → α → Prop) (v : Value) (xs : List α) : Prop := ∃ css, Els s E css xs ∧ Rd w s v xs.length css.flatten
def OwnE (w : World) (lo : Nat) (T : TypeId) (s : Nat) (E : List Value → α → Prop) (v : Value) (xs : List α) : Prop := ∃ css, Els s E css xs ∧ Own w lo T s v xs.length css.flatten
theorem OwnE.rd {w : World} {lo s : Nat} {T : TypeId} {E : List Value → α → Prop} {v : Value} {xs : List α} (h : OwnE w lo T s E v xs) : RdE w s E v xs := by obtain ⟨css, h1, h2⟩ := h; exact ⟨css, h1, h2.rd⟩
theorem OwnE.blk {w : World} {lo s : Nat} {T : TypeId} {E : List Value → α → Prop} {v : Value} {xs : List α} (h : OwnE w lo T s E v xs) : ∀ x, x ∈ vblk v → lo ≤ x ∧ x < w.heap.size := by obtain ⟨css, h1, h2⟩ := h; exact h2.blk
theorem OwnE.mono {w : World} {lo s : Nat} {T : TypeId} {E E' : List Value → α → Prop} {v : Value} {xs : List α} (h : OwnE w lo T s E v xs) (hm : ∀ cs x, E cs x → E' cs x) : OwnE w lo T s E' v xs := by obtain ⟨css, h1, h2⟩ := h; exact ⟨css, h1.mono hm, h2⟩
theorem RdE.mono {w : World} {s : Nat} {E E' : List Value → α → Prop} {v : Value} {xs : List α} (h : RdE w s E v xs) (hm : ∀ cs x, E cs x → E' cs x) : RdE w s E' v xs := by obtain ⟨css, h1, h2⟩ := h; exact ⟨css, h1.mono hm, h2⟩
theorem OwnE.lo {w : World} {lo lo' s : Nat} {T : TypeId} {E : List Value → α → Prop} {v : Value} {xs : List α} (h : OwnE w lo T s E v xs) (hl : lo' ≤ lo) : OwnE w lo' T s E v xs := by obtain ⟨css, h1, h2⟩ := h; exact ⟨css, h1, h2.lo hl⟩
theorem OwnE.keep {S : List Nat} {w w' : World} {lo s : Nat} {T : TypeId} {E : List Value → α → Prop} {v : Value} {xs : List α} (h : OwnE w lo T s E v xs) (k : Keep S w w') (hn : ∀ x, x ∈ vblk v → x ∉ S) : OwnE w' lo T s E v xs := by obtain ⟨css, h1, h2⟩ := h; exact ⟨css, h1, h2.keep k hn⟩
theorem RdE.keep {S : List Nat} {w w' : World} {s : Nat} {E : List Value → α → Prop} {v : Value} {xs : List α} (h : RdE w s E v xs) (k : Keep S w w') (hn : ∀ x, x ∈ vblk v → x ∉ S) : RdE w' s E v xs := by obtain ⟨css, h1, h2⟩ := h; exact ⟨css, h1, h2.keep k hn⟩
theorem RdE.get {w : World} {s : Nat} {E : List Value → α → Prop} {v : Value} {xs : List α} (h : RdE w s E v xs) {i : Nat} (hi : i < xs.length) : ∃ cs0 cs x, Rd w s v xs.length cs0 ∧ xs[i]? = some x ∧ (cs0.drop (i * s)).take s = cs ∧ cs.length = s ∧ E cs x := by
 obtain ⟨css, ⟨h1, h2, h3⟩, h4⟩ := h
 have hc : css[i]? = some (css[i]'(by omega)) := List.getElem?_eq_getElem (by omega)
 exact ⟨_, _, xs[i], h4, List.getElem?_eq_getElem hi, iF h2 hc, h2 _ (List.getElem_mem _), h3 i _ _ hc (List.getElem?_eq_getElem hi)⟩
theorem RdE.len {w : World} {s : Nat} {E : List Value → α → Prop} {v : Value} {xs : List α} (h : RdE w s E v xs) : ∃ cs0, Rd w s v xs.length cs0 := by obtain ⟨css, _, h⟩ := h; exact ⟨_, h⟩
end
end Go.Eng
namespace Go.Byt
theorem be_succ (n : Int) (k : Nat) : be n (k + 1) = be (n / 256) k ++ [byteAt n 0] := by
 unfold be
 rw [List.range_succ, List.map_append]
 congr 1
 · apply List.map_congr_left
   intro j hj
   have hj : j < k := List.mem_range.1 hj
   unfold byteAt
   have e : (2 : Int) ^ (8 * (k + 1 - 1 - j)) = 256 * 2 ^ (8 * (k - 1 - j)) := by
     have : 8 * (k + 1 - 1 - j) = 8 + 8 * (k - 1 - j) := by omega
     rw [this, Int.pow_add]; rfl
   rw [e, ← Int.ediv_ediv_of_nonneg (by decide)]
 · simp
theorem u8_ext {a b : UInt8} (h : (a.toNat : Int) = b.toNat) : a = b := UInt8.toNat_inj.1 (by omega)
theorem be_num (xs : List UInt8) : be (num xs) xs.length = xs := by
 have key : ∀ (n : Nat) (xs : List UInt8), xs.length = n → be (num xs) n = xs := by
   intro n
   induction n with
   | zero => intro xs h; have : xs = [] := List.eq_nil_of_length_eq_zero h
             subst this; rfl
   | succ n ih =>
     intro xs h
     have hne : xs ≠ [] := fun e => by subst e; simp at h
     obtain ⟨ys, y, rfl⟩ : ∃ ys y, xs = ys ++ [y] := ⟨xs.dropLast, xs.getLast hne, (List.dropLast_concat_getLast hne).symm⟩
     have hl : ys.length = n := by simpa using h
     have h2 := y.toNat_lt
     rw [be_succ, ey, show (num ys * 256 + (y.toNat : Int)) / 256 = num ys by omega, ih ys hl]
     congr 2
     refine u8_ext ?_
     rw [cF]; simp; omega
 exact key _ xs rfl
theorem gK {n : Int} {bs : List UInt8} (h : num bs = n) : be n bs.length = bs := by subst h; exact be_num bs
abbrev Tri := List UInt8 × List UInt8 × List UInt8
end Go.Byt
namespace Go.Eng
open Go Go.Byt
def TriR (w : World) (cs : List Value) (x : Tri) : Prop := ∃ r e b, cs = [r, e, b] ∧ RdB w r x.1 ∧ RdB w e x.2.1 ∧ RdB w b x.2.2
theorem TriR.lh {w w' : World} {cs : List Value} {x : Tri} (h : TriR w cs x) (k : Keep [] w w') : TriR w' cs x := by
 obtain ⟨r, e, b, h0, h1, h2, h3⟩ := h; exact ⟨r, e, b, h0, h1.lh k, h2.lh k, h3.lh k⟩
abbrev RdT (w : World) (v : Value) (ss : List Tri) : Prop := RdE w 3 (TriR w) v ss
theorem RdT.lh {w w' : World} {v : Value} {ss : List Tri} (h : RdT w v ss) (k : Keep [] w w') : RdT w' v ss := (RdE.keep h k (fun _ _ h => by cases h)).mono fun _ _ h => h.lh k
abbrev OwB (t8 : TypeId) (w : World) (lo : Nat) (u : Value) (xs : List UInt8) : Prop := Own w lo t8 1 u xs.length (bv xs)
def TriO (t8 : TypeId) (w : World) (lo : Nat) (v : Value) (cs : List Value) (x : Tri) : Prop := ∃ r e b, cs = [r, e, b] ∧ OwB t8 w lo r x.1 ∧ OwB t8 w lo e x.2.1 ∧ OwB t8 w lo b x.2.2 ∧ (∀ y, y ∈ vblk r → y ∉ vblk v) ∧ (∀ y, y ∈ vblk e → y ∉ vblk v) ∧ (∀ y, y ∈ vblk b → y ∉ vblk v)
def OwT (t8 : TypeId) (w : World) (lo : Nat) (T : TypeId) (v : Value) (ss : List Tri) : Prop := OwnE w lo T 3 (TriO t8 w lo v) v ss
theorem OwT.blk {t8 : TypeId} {w : World} {lo : Nat} {T : TypeId} {v : Value} {ss : List Tri} (h : OwT t8 w lo T v ss) : ∀ x, x ∈ vblk v → lo ≤ x ∧ x < w.heap.size := OwnE.blk h
theorem OwT.keepL {t8 : TypeId} {S : List Nat} {w w' : World} {lo : Nat} {T : TypeId} {v : Value} {ss : List Tri} (h : OwT t8 w lo T v ss) (k : Keep S w w') (hS : ∀ x, x ∈ S → x < lo) : OwT t8 w' lo T v ss := by
 have ap : ∀ {u : Value} {xs : List UInt8}, OwB t8 w lo u xs → OwB t8 w' lo u xs := fun ho => Own.keep ho k (fun x hx hm => by have h1 := hS x hm; have h2 := (Own.blk ho x hx).1; omega)
 refine (OwnE.keep h k (fun x hx hm => by have h1 := hS x hm; have h2 := (OwnE.blk h x hx).1; omega)).mono fun _ _ ⟨r, e, b, h0, h1, h2, h3, h4⟩ => ⟨r, e, b, h0, ap h1, ap h2, ap h3, h4⟩
theorem OwT.lh {t8 : TypeId} {w w' : World} {lo : Nat} {T : TypeId} {v : Value} {ss : List Tri} (h : OwT t8 w lo T v ss) (k : Keep [] w w') : OwT t8 w' lo T v ss := h.keepL k (fun _ h => by cases h)
theorem OwT.keep {t8 : TypeId} {S : List Nat} {w w' : World} {lo : Nat} {T : TypeId} {v : Value} {ss : List Tri} (h : OwT t8 w lo T v ss) (k : Keep S w w') (hS : ∀ x, lo ≤ x → x ∉ S) : OwT t8 w' lo T v ss := h.keepL k (fun x hx => by rcases Nat.lt_or_ge x lo with h | h; exact h; exact absurd hx (hS x h))
theorem OwT.lo {t8 : TypeId} {w : World} {lo lo' : Nat} {T : TypeId} {v : Value} {ss : List Tri} (h : OwT t8 w lo T v ss) (hl : lo' ≤ lo) : OwT t8 w lo' T v ss := (OwnE.lo h hl).mono fun _ _ ⟨r, e, b, h0, h1, h2, h3, h4⟩ => ⟨r, e, b, h0, Own.lo h1 hl, Own.lo h2 hl, Own.lo h3 hl, h4⟩
theorem OwT.one {t8 : TypeId} {w : World} {lo : Nat} {T : TypeId} {v : Value} {ss : List Tri} (h : OwT t8 w lo T v ss) : v.oneCell' = true := by obtain ⟨css, _, h⟩ := h; exact h.rd.one
section
variable {P : Program} {n : NN} {f : Fr} {w : World} {ty : TypeId}
end
theorem jk {w : World} {lo : Nat} {e : TypeId} {u : Value} {xs : List UInt8} (o : Own w lo e 1 u (xs.length + 2) (bv (xs ++ [201, 202]))) : RdB w (cut u 0 xs.length 1) xs := by
 have h : RdB w u (xs ++ [201, 202]) := by unfold RdB; rw [List.length_append]; exact o.rd
 have h' := h.cutB (l := 0) (hi := xs.length) (by omega) (by simp)
 simpa using h'
theorem cut_cut {w : World} {n : Nat} {cs : List Value} {u : Value} {m k : Nat} (h : Rd w 1 u n cs) : cut (cut u 0 m 1) 0 k 1 = cut u 0 k 1 := by
 obtain ⟨A, c, rfl, _⟩ := h
 have e : ∀ a : Addr, a.add 0 = a := fun a => Addr.add_zero' a
 cases A with
 | none => simp [cut]
 | some a => simp [cut, e]
theorem gD (xs : List UInt8) : gb (xs ++ [201, 202]) (xs.length : Int) = 201 := by unfold gb; simp
theorem mark2 (xs : List UInt8) : gb (xs ++ [201, 202]) ((xs.length : Int) + 1) = 202 := by
 unfold gb
 rw [show ((xs.length : Int) + 1).toNat = xs.length + 1 by omega, List.getD_eq_getElem?_getD, List.getElem?_append_right (by omega)]
 simp
theorem RdT.one {w : World} {v : Value} {ss : List Tri} (h : RdT w v ss) : v.oneCell' = true := by obtain ⟨_, _, h⟩ := h; exact h.one
theorem SlL.cblk {w : World} {lo : Nat} {T : TypeId} {v : Value} {ls : List (List UInt8)} (h : SlL w lo T v ls) : Eng.cblk v = Eng.vblk v := by obtain ⟨us, _, _, h3⟩ := h; exact h3.rd.cblk
end Go.Eng
namespace Go.Eng
open Go
structure Endz (P : Program) (i : FuncId) (args : List Value) (w : World) (R : Ending → World → Prop) : Prop where
  ok : CallOk P i
  calls : Calls P i args.toArray w R
theorem Endz.mono {P : Program} {i : FuncId} {args : List Value} {w : World} {R R' : Ending → World → Prop} (h : Endz P i args w R) (hr : ∀ e w', R e w' → R' e w') : Endz P i args w R' := ⟨h.ok, Calls.mono h.calls hr⟩
section
variable {P : Program} {fin : Exit → Act → World → Prop} {n : NN} {k : List KI} {f : Fr} {w : World} {fn : Func} {ops : Array Oper} {l : List Oper} {ty : TypeId}
theorem j7 {i : FuncId} (h : CallOk P i) (args : Array Value) (w : World) : (callFunc i args).run P w = .ok (.enter i args) w := by
 obtain ⟨fn, hf, hb, hnm⟩ := h
 have hb' : fn.body.isNone = false := by cases h : fn.body <;> simp_all
 simp only [callFunc, Sem.run_bind, run_program, Result.andThen_ok, hf, hnm, Bool.false_eq_true, if_false, hb', Sem.run_pure]
end
end Go.Eng
namespace Go.Eng
open Go Go.IntWalk
section
variable {P : Program} {n : NN} {f : Fr} {w : World} {ty : TypeId}
end
end Go.Eng
namespace Go.Eng
open Go
variable {P : Program} {n : NN} {f : Fr} {w : World} {ty : TypeId}
theorem g_mkm {i : FuncId} {fs : Array Operand} {cs : List Value} (hx : f.evs fs.toList = some cs) : Gives P n f w (.makeFunc (.func i) fs #[]) ty (.func (.func i) cs.toArray #[]) w := by
 intro a ha dst pos aft g
 have hm : fs.map a.eval = cs.toArray := by rw [← Array.toList_inj]; simp [ha.evs hx]
 simp [execOp, Instr.makeFunc, hm]
theorem d_callm {x : Operand} {i : FuncId} {args : Array Operand} {ats : Array TypeId} {vs cs : List Value} {R : Value → World → Prop} (hf : f.ev x = some (.func (.func i) cs.toArray #[])) (hx : f.evs args.toList = some vs) (hc : Rets P i (cs ++ vs) w R) :
   Does P n f w (.call { callee := .value x, args := args, argTypes := ats }) ty R := by
 intro a ha dst pos aft g K Q hK
 have hm : args.map a.eval = vs.toArray := by rw [← Array.toList_inj]; simp [ha.evs hx]
 have hr : (execOp a.eval ⟨dst, .call { callee := .value x, args := args, argTypes := ats }, ty, pos, aft, g⟩).run P w = .ok (.enter i (cs ++ vs).toArray) w := by
   simp [execOp, resolve, Deferred.ofValue, ha.ev hf, invoke, hm, j7 hc.ok]
 unfold Oper.wp
 rw [hr]
 exact Calls.mono hc.calls fun e w' ⟨v, he, hv⟩ => by subst he; exact hK v w' hv
end Go.Eng
namespace Go.Proofs.YtjfmmoonpdifcaaDoor.W
open Go Go.Eng Go.Byt
theorem kh (g m b cv : Value) (x : Fm) (wi : Int) (ctx : List UInt8) (w : World) (hg : RdB w g x.gs) (hm : RdB w m x.ms) (hb : RdB w b x.bs) (hcv : RdB w cv ctx) : Rets Tryd.prog 42 [.agg [g, .int .i64 x.ep, .int .i64 x.fr, .int .i64 x.lf, m, .int .i64 x.kd, b].toArray, .int .i64 wi, cv] w (fun v w' => ∃ u, v = .tuple #[u, .int .i64 (txE x wi ctx)] ∧ OwnB w' w.heap.size u (txB x wi ctx) ∧ Keep [] w w') := by
  have hB : Keep [] w w := Keep.refl _ _
  refine ad Tryd.func42 rfl (by decide) Tryd.ntmps42 rfl (fun fin _ hfin => ?_)
  refine aY ?_
  refine aX ?_
  refine ah (bz (cs := [g, .int .i64 x.ep, .int .i64 x.fr, .int .i64 x.lf, m, .int .i64 x.kd, b]) rfl rfl) rfl ?_
  rintro _ w1 ⟨b1, rfl, eb1, hb1, k1, z1⟩
  have ge_b1 : w.heap.size ≤ b1 := by have := hB.size; omega
  replace hB := hB.trans k1
  clear eb1 z1
  refine oga rfl rfl ?_
  refine oga rfl rfl ?_
  refine aZ ?_
  refine aY ?_
  refine ag ?_
  refine aY ?_
  refine aY ?_
  refine aX ?_
  refine a4 (an (cs' := [_, _, _, _, _, _, _]) fx dd rfl hb1 rfl rfl) rfl ?_
  refine ah (a7 (vs := [_]) rfl (fR g m b x _ (hg.lh hB) (hm.lh hB) (hb.lh hB))) rfl ?_
  rintro _ w2 ⟨rfl, k2⟩
  replace hb1 := hb1.lh k2
  replace hB := hB.trans k2
  refine a4 (dq rfl) rfl ?_
  refine oga rfl rfl ?_
  refine aZ ?_
  refine bH rfl (fun hc1 => ?_) (fun hc1 => ?_)
  · -- yes
    have hd1 := hc1
    try (simp only [Bool.and_eq_true, Bool.or_eq_true, decide_eq_true_eq, Bool.and_eq_false_iff, Bool.or_eq_false_iff, decide_eq_false_iff_not, Bool.not_eq_true', Bool.not_eq_false', Bool.not_eq_true, Bool.not_eq_false, ne_eq, Decidable.not_not, decide_true, decide_false, Bool.true_and, Bool.false_and, Bool.or_false, Bool.false_or, not_true_eq_false, false_or, or_false, true_and, and_true, not_false_eq_true, reduceCtorEq] at hd1)
    refine a8 ?_
    refine kq rfl hc1 ?_
    refine aY ?_
    refine aX ?_
    refine oga rfl rfl ?_
    refine oga rfl rfl ?_
    refine aZ ?_
    refine bK hfin Tryd.results42 rfl rfl ?_
    have e0 : txE x wi ctx = 1 := by
      unfold txE; cases hq : cOk x <;> simp_all
    refine ⟨_, by rw [e0], ?_, hB⟩
    unfold txB; rw [if_neg (by rw [e0]; decide)]; exact a9 _ _ _ _
  · -- no
    have hd2 := hc1
    try (simp only [Bool.and_eq_true, Bool.or_eq_true, decide_eq_true_eq, Bool.and_eq_false_iff, Bool.or_eq_false_iff, decide_eq_false_iff_not, Bool.not_eq_true', Bool.not_eq_false', Bool.not_eq_true, Bool.not_eq_false, ne_eq, Decidable.not_not, decide_true, decide_false, Bool.true_and, Bool.false_and, Bool.or_false, Bool.false_or, not_true_eq_false, false_or, or_false, true_and, and_true, not_false_eq_true, reduceCtorEq] at hd2)
    refine aX ?_
    refine ogm rfl rfl ?_
    refine a4 (cC rfl rfl) rfl ?_
    refine ogm rfl rfl ?_
    refine al 14 true rfl (fun c1 hgc1 => ?_)
    refine a5 [(1, _)] (aa rfl rfl rfl hgc1) ⟨au rfl, trivial⟩ (fun hw1 => av rfl) rfl ?_
    refine a5 [(15, _)] (aa rfl rfl rfl hgc1) ⟨ae rfl, trivial⟩ (fun hw2 => cC rfl rfl) rfl ?_
    refine a4 (ax rfl rfl hgc1) rfl ?_
    refine oga rfl rfl ?_
    refine aZ ?_
    refine ab [(1, _), (2, _), (3, _), (8, _)] ⟨rfl, rfl, rfl, rfl, trivial⟩ ?_
    refine bH rfl (fun hc2 => ?_) (fun hc2 => ?_)
    · -- yes
      have hd3 := hc2
      try (simp only [Bool.and_eq_true, Bool.or_eq_true, decide_eq_true_eq, Bool.and_eq_false_iff, Bool.or_eq_false_iff, decide_eq_false_iff_not, Bool.not_eq_true', Bool.not_eq_false', Bool.not_eq_true, Bool.not_eq_false, ne_eq, Decidable.not_not, decide_true, decide_false, Bool.true_and, Bool.false_and, Bool.or_false, Bool.false_or, not_true_eq_false, false_or, or_false, true_and, and_true, not_false_eq_true, reduceCtorEq] at hd3)
      refine aY ?_
      refine aX ?_
      refine oga rfl rfl ?_
      refine oga rfl rfl ?_
      refine aZ ?_
      refine bK hfin Tryd.results42 rfl rfl ?_
      have e0 : txE x wi ctx = 1 := by
        unfold txE; cases hq : cOk x <;> simp_all
      refine ⟨_, by rw [e0], ?_, hB⟩
      unfold txB; rw [if_neg (by rw [e0]; decide)]; exact a9 _ _ _ _
    · -- no
      have hd4 := hc2
      try (simp only [Bool.and_eq_true, Bool.or_eq_true, decide_eq_true_eq, Bool.and_eq_false_iff, Bool.or_eq_false_iff, decide_eq_false_iff_not, Bool.not_eq_true', Bool.not_eq_false', Bool.not_eq_true, Bool.not_eq_false, ne_eq, Decidable.not_not, decide_true, decide_false, Bool.true_and, Bool.false_and, Bool.or_false, Bool.false_or, not_true_eq_false, false_or, or_false, true_and, and_true, not_false_eq_true, reduceCtorEq] at hd4)
      refine aY ?_
      refine aX ?_
      refine ogm rfl rfl ?_
      refine a4 (bI aA rfl (by first | assumption | exact Own.rd (by assumption) | exact Rd.lh (by assumption) hB | exact Own.rd (Own.lh (by assumption) hB))) rfl ?_
      refine a4 (dr rfl rfl) rfl ?_
      refine oga rfl rfl ?_
      refine aZ ?_
      refine ar rfl (fun hc3 => ?_) (fun hc3 => ?_)
      · -- yes
        refine aY ?_
        refine aX ?_
        refine oga rfl rfl ?_
        refine oga rfl rfl ?_
        refine aZ ?_
        refine bK hfin Tryd.results42 rfl rfl ?_
        have e0 : txE x wi ctx = 6 := by
          unfold txE; have hokc : cOk x = true := by simpa using hc1
          rw [hokc]; have hw : (decide (wi = 1) || decide (wi = 2)) = true := by simp_all
          rw [hw, if_pos (by omega)]; rfl
        refine ⟨_, by rw [e0], ?_, hB⟩
        unfold txB; rw [if_neg (by rw [e0]; decide)]; exact a9 _ _ _ _
      · -- no
        refine a8 ?_
        refine bg ?_
        refine aY ?_
        have hokc : cOk x = true := by simpa using hc1
        have hlen := gR hokc
        have hctx : ctx.length ≤ 2000 := by omega
        have gl_d := hB.size
        refine dU 8 mixed [(1, _), (3, _), (2, _), (8, _), (19, _), (20, _), (21, _), (18, _)] (fun jj v W => match jj with | 0 => OwnB W w2.heap.size v (numB (bitsOf 2) 1 2) | 1 => v = .int .i64 wi | 2 => OwnB W w2.heap.size v (numB (bitsOf 2) wi 2) | 3 => v = .agg [g, .int .i64 x.ep, .int .i64 x.fr, .int .i64 x.lf, m, .int .i64 x.kd, b].toArray | 4 => OwnB W w2.heap.size v (cB x) | 5 => v = cv | 6 => SlL W w2.heap.size 22 v [numB (bitsOf 2) 1 2, numB (bitsOf 2) wi 2, cB x, ctx] | 7 => OwnB W w2.heap.size v (txT x wi ctx) | _ => True) ⟨rfl, rfl, rfl, rfl, rfl, rfl, rfl, rfl, trivial⟩ (by decide) (by decide) rfl ?_ ?_ ?_
        · intro jj v W W' h k
          match jj, h with
          | 0, h => exact h.lh k
          | 1, h => exact h
          | 2, h => exact h.lh k
          | 3, h => exact h
          | 4, h => exact h.lh k
          | 5, h => exact h
          | 6, h => exact h.lh k
          | 7, h => exact h.lh k
          | _ + 8, _ => trivial
        · refine ⟨?_, ?_, ?_, ?_, ?_, ?_, ?_, ?_, trivial⟩
          · refine ⟨[], rfl, ?_⟩; rintro W1 hk vs hd
            replace hb1 := hb1.lh hk
            replace hB := hB.trans hk
            refine ⟨true, fun a _ => rfl, fun _ => ?_, fun h => by cases h⟩
            refine a6 [] trivial ?_
            refine (a7 (vs := [_, _]) rfl (cG 1 2 (by decide) _)).mono ?_
            rintro v W2 ⟨o1, k1⟩; exact ⟨k1, o1.lo hk.size⟩
          · refine ⟨[], rfl, ?_⟩; rintro W1 hk vs hd
            replace hb1 := hb1.lh hk
            replace hB := hB.trans hk
            refine ⟨true, fun a _ => rfl, fun _ => ?_, fun h => by cases h⟩
            refine a6 [(1, _)] ⟨rfl, trivial⟩ ?_
            refine (Gives.does (av rfl)).mono ?_
            rintro v W2 ⟨rfl, rfl⟩
            exact ⟨Keep.refl _ _, rfl⟩
          · refine ⟨[1], rfl, ?_⟩; rintro W1 hk vs hd
            have d1 : (vs 1) = .int .i64 wi := hd 1 (by decide)
            replace hb1 := hb1.lh hk
            replace hB := hB.trans hk
            refine ⟨true, fun a _ => rfl, fun _ => ?_, fun h => by cases h⟩
            refine a6 [(23, .int .i64 wi)] ⟨congrArg some d1, trivial⟩ ?_
            refine (a7 (vs := [_, _]) rfl (cG wi 2 (by decide) _)).mono ?_
            rintro v W2 ⟨o1, k1⟩; exact ⟨k1, o1.lo hk.size⟩
          · refine ⟨[], rfl, ?_⟩; rintro W1 hk vs hd
            replace hb1 := hb1.lh hk
            replace hB := hB.trans hk
            refine ⟨true, fun a _ => rfl, fun _ => ?_, fun h => by cases h⟩
            refine a6 [(3, _)] ⟨rfl, trivial⟩ ?_
            refine (Gives.does (an (cs' := [_, _, _, _, _, _, _]) fx dd rfl hb1 rfl rfl)).mono ?_
            rintro v W2 ⟨rfl, rfl⟩
            exact ⟨Keep.refl _ _, rfl⟩
          · refine ⟨[3], rfl, ?_⟩; rintro W1 hk vs hd
            have d3 : (vs 3) = .agg [g, .int .i64 x.ep, .int .i64 x.fr, .int .i64 x.lf, m, .int .i64 x.kd, b].toArray := hd 3 (by decide)
            replace hb1 := hb1.lh hk
            replace hB := hB.trans hk
            refine ⟨true, fun a _ => rfl, fun _ => ?_, fun h => by cases h⟩
            refine a6 [(25, .agg [g, .int .i64 x.ep, .int .i64 x.fr, .int .i64 x.lf, m, .int .i64 x.kd, b].toArray)] ⟨congrArg some d3, trivial⟩ ?_
            refine (a7 (vs := [_]) rfl (fv g m b x.gs x.ms x.bs x.ep x.fr x.lf x.kd _ (hg.lh hB) (hm.lh hB) (hb.lh hB) hlen.1 hlen.2.1 hlen.2.2)).mono ?_
            rintro v W2 ⟨o1, k1⟩; exact ⟨k1, o1.lo hk.size⟩
          · refine ⟨[], rfl, ?_⟩; rintro W1 hk vs hd
            replace hb1 := hb1.lh hk
            replace hB := hB.trans hk
            refine ⟨true, fun a _ => rfl, fun _ => ?_, fun h => by cases h⟩
            refine a6 [(2, _)] ⟨rfl, trivial⟩ ?_
            refine (Gives.does (av rfl)).mono ?_
            rintro v W2 ⟨rfl, rfl⟩
            exact ⟨Keep.refl _ _, rfl⟩
          · refine ⟨[0, 2, 4, 5], rfl, ?_⟩; rintro W1 hk vs hd
            have d0 : OwnB W1 w2.heap.size (vs 0) (numB (bitsOf 2) 1 2) := hd 0 (by decide)
            have d2 : OwnB W1 w2.heap.size (vs 2) (numB (bitsOf 2) wi 2) := hd 2 (by decide)
            have d4 : OwnB W1 w2.heap.size (vs 4) (cB x) := hd 4 (by decide)
            have d5 : (vs 5) = cv := hd 5 (by decide)
            replace hb1 := hb1.lh hk
            replace hB := hB.trans hk
            refine ⟨true, fun a _ => rfl, fun _ => ?_, fun h => by cases h⟩
            refine a6 [(22, vs 0), (24, vs 2), (26, vs 4), (27, cv)] ⟨rfl, rfl, rfl, congrArg some d5, trivial⟩ ?_
            refine (dG (m := 4) (ls := [numB (bitsOf 2) 1 2, numB (bitsOf 2) wi 2, cB x, ctx]) (xs := [.tmp 22, .tmp 24, .tmp 26, .tmp 27]) (us := [_, _, _, _]) aJ az rfl rfl (bA (by first | exact Rd.nil _ _ | exact (by first | assumption | exact Own.rd (by assumption) | exact Rd.lh (by assumption) hB | exact Own.rd (Own.lh (by assumption) hB))) (bA (by first | exact Rd.nil _ _ | exact (by first | assumption | exact Own.rd (by assumption) | exact Rd.lh (by assumption) hB | exact Own.rd (Own.lh (by assumption) hB))) (bA (by first | exact Rd.nil _ _ | exact (by first | assumption | exact Own.rd (by assumption) | exact Rd.lh (by assumption) hB | exact Own.rd (Own.lh (by assumption) hB))) (bA (by first | exact Rd.nil _ _ | exact (by first | assumption | exact Own.rd (by assumption) | exact Rd.lh (by assumption) hB | exact Own.rd (Own.lh (by assumption) hB))) (bt _))))) rfl rfl).mono ?_
            rintro v W2 ⟨o1, k1⟩; exact ⟨k1, o1.lo hk.size⟩
          · refine ⟨[6], rfl, ?_⟩; rintro W1 hk vs hd
            have d6 : SlL W1 w2.heap.size 22 (vs 6) [numB (bitsOf 2) 1 2, numB (bitsOf 2) wi 2, cB x, ctx] := hd 6 (by decide)
            replace hb1 := hb1.lh hk
            replace hB := hB.trans hk
            refine ⟨true, fun a _ => rfl, fun _ => ?_, fun h => by cases h⟩
            refine a6 [(28, vs 6)] ⟨rfl, trivial⟩ ?_
            refine (a7 (vs := [_]) rfl (eL _ [numB (bitsOf 2) 1 2, numB (bitsOf 2) wi 2, cB x, ctx] _ _ (by assumption) (Nat.le_trans (jO hctx) (by decide)))).mono ?_
            rintro v W2 ⟨o1, k1⟩; exact ⟨k1, o1.lo hk.size⟩
        rintro w3 k3 vs hv
        replace hB := hB.trans k3
        have e29 : OwnB w3 w2.heap.size (vs 7) (txT x wi ctx) := hv 7 (by decide) rfl
        refine dR [(29, vs 7), (1, _), (3, _), (2, _), (8, _), (19, _), (20, _), (21, _), (18, _)] ⟨rfl, rfl, rfl, rfl, rfl, rfl, rfl, rfl, rfl, trivial⟩ ?_
        have o1 := e29
        refine oga rfl rfl ?_
        refine oga rfl rfl ?_
        refine aZ ?_
        refine bK hfin Tryd.results42 rfl rfl ?_
        have e0 : txE x wi ctx = 0 := by
          unfold txE; rw [hokc]; have hw : (decide (wi = 1) || decide (wi = 2)) = true := by simp_all
          rw [hw, if_neg (by omega)]; rfl
        refine ⟨_, by rw [e0], ?_, hB⟩
        unfold txB; rw [if_pos e0]; exact o1.lo gl_d
def t2E (x : Fm) (ctx : List UInt8) : Int := bif sOk x then txE x x.wi ctx else 1
def t2B (x : Fm) (ctx : List UInt8) : List UInt8 := bif sOk x then txB x x.wi ctx else []
theorem kE (g m b sg cf cv : Value) (x : Fm) (ctx : List UInt8) (w : World) (hg : RdB w g x.gs) (hm : RdB w m x.ms) (hb : RdB w b x.bs) (hs : RdB w sg x.ss) (hc : RdB w cf x.cs) (hcv : RdB w cv ctx) : Rets Tryd.prog 18 [.agg [g, .int .i64 x.ep, .int .i64 x.fr, .int .i64 x.lf, m, .int .i64 x.kd, b, .int .i64 x.wi, sg, cf].toArray, cv] w (fun v w' => ∃ u, v = .tuple #[u, .int .i64 (t2E x ctx)] ∧ OwnB w' w.heap.size u (t2B x ctx) ∧ Keep [] w w') := by
 have hB : Keep [] w w := Keep.refl _ _
 refine ad Tryd.func18 rfl (by decide) Tryd.ntmps18 rfl (fun fin _ hfin => ?_)
 refine aY (aX (ah (bz (cs := [g, .int .i64 x.ep, .int .i64 x.fr, .int .i64 x.lf, m, .int .i64 x.kd, b, .int .i64 x.wi, sg, cf]) rfl rfl) rfl ?_))
 rintro _ w1 ⟨b1, rfl, eb1, hb1, k1, z1⟩
 replace hB := hB.trans k1
 clear eb1 z1
 refine oga rfl rfl (oga rfl rfl (aZ (aY (aX (a4 (an (cs' := [_, _, _, _, _, _, _, _, _, _]) cO bM rfl hb1 rfl rfl) rfl ?_)))))
 refine a4 (g_mkm (cs := [.agg [g, .int .i64 x.ep, .int .i64 x.fr, .int .i64 x.lf, m, .int .i64 x.kd, b, .int .i64 x.wi, sg, cf].toArray]) rfl) rfl ?_
 refine oga rfl rfl (aZ (aY (aY (aX (ogm rfl rfl (ah (d_callm (cs := [.agg [g, .int .i64 x.ep, .int .i64 x.fr, .int .i64 x.lf, m, .int .i64 x.kd, b, .int .i64 x.wi, sg, cf].toArray]) rfl rfl (ci g m b sg cf x _ (hg.lh hB) (hm.lh hB) (hb.lh hB) (hs.lh hB) (hc.lh hB))) rfl ?_))))))
 rintro _ w2 ⟨rfl, k2⟩
 replace hb1 := hb1.lh k2
 replace hB := hB.trans k2
 refine a4 (dq rfl) rfl ?_
 refine aZ (bH rfl (fun hc1 => ?_) (fun hc1 => ?_))
 ·
  have hd1 := hc1
  try (simp only [Bool.and_eq_true, Bool.or_eq_true, decide_eq_true_eq, Bool.and_eq_false_iff, Bool.or_eq_false_iff, decide_eq_false_iff_not, Bool.not_eq_true', Bool.not_eq_false', Bool.not_eq_true, Bool.not_eq_false, ne_eq, Decidable.not_not, decide_true, decide_false, Bool.true_and, Bool.false_and, Bool.or_false, Bool.false_or, not_true_eq_false, false_or, or_false, true_and, and_true, not_false_eq_true, reduceCtorEq] at hd1)
  refine aY (aX (oga rfl rfl (oga rfl rfl (aZ (bK hfin Tryd.results18 rfl rfl ?_)))))
  have e0 : sOk x = false := by simpa using hc1
  exact ⟨_, by unfold t2E; rw [e0]; rfl, by unfold t2B; rw [e0]; exact a9 _ _ _ _, hB⟩
 ·
  have hd2 := hc1
  try (simp only [Bool.and_eq_true, Bool.or_eq_true, decide_eq_true_eq, Bool.and_eq_false_iff, Bool.or_eq_false_iff, decide_eq_false_iff_not, Bool.not_eq_true', Bool.not_eq_false', Bool.not_eq_true, Bool.not_eq_false, ne_eq, Decidable.not_not, decide_true, decide_false, Bool.true_and, Bool.false_and, Bool.or_false, Bool.false_or, not_true_eq_false, false_or, or_false, true_and, and_true, not_false_eq_true, reduceCtorEq] at hd2)
  refine a8 (aY (aX (a4 (aj 0 aN rfl dd (by decide) rfl rfl) rfl ?_)))
  refine a4 (an (cs' := [_, _, _, _, _, _, _]) fx dd rfl hb1 rfl rfl) rfl ?_
  refine a4 (aj 7 aN rfl bJ (by decide) rfl rfl) rfl ?_
  refine a4 (ac bZ rfl hb1 rfl) rfl ?_
  refine ogm rfl rfl (ah (a7 (vs := [_, _, _]) rfl (kh g m b cv x x.wi ctx _ (hg.lh hB) (hm.lh hB) (hb.lh hB) (hcv.lh hB))) rfl ?_)
  rintro _ w3 ⟨u1, rfl, o1, k3⟩
  have gl_o1 := hB.size
  replace hB := hB.trans k3
  refine a4 (bm (vs := [_, _]) rfl rfl) rfl ?_
  refine a4 (bm (vs := [_, _]) rfl rfl) rfl ?_
  refine oga rfl rfl (oga rfl rfl (aZ (ab [(4, _), (5, _)] ⟨rfl, rfl, trivial⟩ ?_)))
  refine bK hfin Tryd.results18 rfl rfl ?_
  have e0 : sOk x = true := by simpa using hc1
  exact ⟨_, by unfold t2E; rw [e0]; rfl, by unfold t2B; rw [e0]; exact o1.lo gl_o1, hB⟩
theorem tg_w {x : Fm} {ctx : List UInt8} (h : x.wi ≠ 1) : tgE x ctx = 1 := by
 unfold tgE; rw [decide_eq_false h, Bool.and_false]; rfl
theorem jf {x : Fm} {ctx : List UInt8} (h : x.wi = 1) : t2E x ctx = tgE x ctx ∧ (tgE x ctx = 0 → t2B x ctx = txT x 1 ctx) := by
 cases hs : sOk x with
 | false => 
   have e1 : tgE x ctx = 1 := by unfold tgE; rw [hs]; rfl
   refine ⟨by rw [e1]; unfold t2E; rw [hs]; rfl, fun h0 => ?_⟩
   rw [e1] at h0; exact absurd h0 (by decide)
 | true =>
   have hc := (dP hs).1
   have e1 : t2E x ctx = tgE x ctx := by unfold t2E tgE txE; rw [hs, hc, h]; rfl
   refine ⟨e1, fun h0 => ?_⟩
   rw [← e1] at h0
   unfold t2E at h0
   rw [hs, cond_true] at h0
   unfold t2B txB
   rw [hs, cond_true, if_pos h0, h]
theorem kr {x : Fm} {ctx : List UInt8} (h : t2E x ctx = 1) : tgE x ctx = 1 := by
 by_cases hw : x.wi = 1
 · rw [← (jf hw).1]; exact h
 · exact tg_w hw
theorem je {x : Fm} {mem ctx : List UInt8} : (tgB x mem ctx).length ≤ 32 := by
 unfold tgB; split
 · rw [ke]; decide
 · simp
theorem jA (g m b sg cf mv cv : Value) (x : Fm) (mem ctx : List UInt8) (w : World) (hT : Tabs w) (hg : RdB w g x.gs) (hm : RdB w m x.ms) (hb : RdB w b x.bs) (hs : RdB w sg x.ss) (hc : RdB w cf x.cs) (hmv : RdB w mv mem) (hml : mem.length ≤ 140737488351232) (hcv : RdB w cv ctx) : Rets Tryd.prog 6 [.agg [g, .int .i64 x.ep, .int .i64 x.fr, .int .i64 x.lf, m, .int .i64 x.kd, b, .int .i64 x.wi, sg, cf].toArray, mv, cv] w (fun v w' => ∃ u, v = .tuple #[u, .int .i64 (tgE x ctx)] ∧ OwnB w' w.heap.size u (tgB x mem ctx) ∧ Keep [] w w') := by
 have hB : Keep [] w w := Keep.refl _ _
 refine ad Tryd.func6 rfl (by decide) Tryd.ntmps6 rfl (fun fin _ hfin => ?_)
 refine aY (aX (ah (bz (cs := [g, .int .i64 x.ep, .int .i64 x.fr, .int .i64 x.lf, m, .int .i64 x.kd, b, .int .i64 x.wi, sg, cf]) rfl rfl) rfl ?_))
 rintro _ w1 ⟨b1, rfl, eb1, hb1, k1, z1⟩
 have ge_b1 : w.heap.size ≤ b1 := by have := hB.size; omega
 replace hB := hB.trans k1
 clear eb1 z1
 refine oga rfl rfl (oga rfl rfl (aZ (aY (aX (a4 (an (cs' := [_, _, _, _, _, _, _, _, _, _]) cO bM rfl hb1 rfl rfl) rfl ?_)))))
 refine ogm rfl rfl (ah (a7 (vs := [_, _]) rfl (kE g m b sg cf cv x ctx _ (hg.lh hB) (hm.lh hB) (hb.lh hB) (hs.lh hB) (hc.lh hB) (hcv.lh hB))) rfl ?_)
 rintro _ w2 ⟨u1, rfl, o1, k2⟩
 have gl_o1 := hB.size
 replace hb1 := hb1.lh k2
 replace hB := hB.trans k2
 refine ogm rfl rfl (a4 (bm (vs := [_, _]) rfl rfl) rfl ?_)
 refine a4 (bm (vs := [_, _]) rfl rfl) rfl ?_
 refine oga rfl rfl (oga rfl rfl (aZ (ab [(1, _), (3, _), (8, _), (9, _)] ⟨rfl, rfl, rfl, rfl, trivial⟩ ?_)))
 refine aY (ag (aY (aY (aX (ogm rfl rfl (a4 (bF rfl rfl) rfl ?_))))))
 refine oga rfl rfl (aZ (ar rfl (fun hc1 => ?_) (fun hc1 => ?_)))
 ·
  refine a8 (bj rfl hc1 ?_)
  refine aY (aX (oga rfl rfl (oga rfl rfl (aZ (bK hfin Tryd.results6 rfl rfl ?_)))))
  have e0 : tgE x ctx = 1 := by first | exact kr ‹_› | exact tg_w ‹_›
  refine ⟨_, by rw [e0], ?_, hB⟩
  unfold tgB; rw [if_neg (by rw [e0]; decide)]; exact a9 _ _ _ _
 ·
  refine aX (a4 (aj 7 aN rfl bJ (by decide) rfl rfl) rfl ?_)
  refine a4 (ac bZ rfl hb1 rfl) rfl ?_
  refine a4 (cC rfl rfl) rfl ?_
  refine oga rfl rfl (aZ (ar rfl (fun hc2 => ?_) (fun hc2 => ?_)))
  ·
   refine aY (aX (oga rfl rfl (oga rfl rfl (aZ (ab [(6, _), (7, _)] ⟨rfl, rfl, trivial⟩ ?_)))))
   refine bK hfin Tryd.results6 rfl rfl ?_
   have e0 : tgE x ctx = 1 := by first | exact kr ‹_› | exact tg_w ‹_›
   refine ⟨_, by rw [e0], ?_, hB⟩
   unfold tgB; rw [if_neg (by rw [e0]; decide)]; exact a9 _ _ _ _
  ·
   refine aY (aX (ogm rfl rfl (a4 (cC rfl rfl) rfl ?_)))
   refine oga rfl rfl (aZ (ar rfl (fun hc3 => ?_) (fun hc3 => ?_)))
   ·
    refine aY (aX (ogm rfl rfl (oga rfl rfl (oga rfl rfl (aZ (ab [(6, _), (7, _)] ⟨rfl, rfl, trivial⟩ ?_))))))
    refine bK hfin Tryd.results6 rfl rfl ?_
    have hwi : x.wi = 1 := by omega
    have e0 := (jf (ctx := ctx) hwi).1
    refine ⟨_, by rw [e0], ?_, hB⟩
    unfold tgB; rw [if_neg (by rw [← e0]; assumption)]; exact a9 _ _ _ _
   ·
    refine a8 (bg (aY (aX (ogm rfl rfl (ogm rfl rfl (a4 (an (cs' := [_, _, _, _, _, _, _, _, _, _]) cO bM rfl hb1 rfl rfl) rfl ?_))))))
    have hwi : x.wi = 1 := by omega
    have hts0 : tgE x ctx = 0 := by rw [← (jf hwi).1]; omega
    have hts := kt hts0
    have htl := jO (x := x) (wi := 1) hts.2.2
    have hel := @gQ x
    replace o1 : OwnB _ _ _ (txT x 1 ctx) := (jf hwi).2 hts0 ▸ o1
    refine ah (a7 (vs := [_]) rfl (gu g m b sg cf x _ (hs.lh hB) (hc.lh hB) (by have := (dP hts.1).2.2.1; omega) (by have := (dP hts.1).2.2.2; split at this <;> omega))) rfl ?_
    rintro v1 w3 ⟨o2, k3⟩
    have gl_o2 := hB.size
    replace o1 := o1.lh k3
    replace hB := hB.trans k3
    replace o1 : OwnB _ _ _ (txT x 1 ctx) := o1.lo gl_o1
    have hsz_o3 := hB.size
    refine ah (bS (xs := txT x 1 ctx) (ys := endB x) aA bu rfl o1 rfl o2.rd (by omega) (by omega)) rfl ?_
    rintro v2 w4 ⟨o3, k4, lb_o3, _⟩
    have sbx_o3 := fun x hx => (o1.blk x hx).1
    replace hB := hB.new k4 (fun x hx => .inl (o1.blk x hx).1)
    replace o3 : OwnB w4 w.heap.size v2 (txT x 1 ctx ++ endB x) := by unfold OwnB; rw [List.length_append]; exact o3
    have gl_o3 := Nat.le_refl w.heap.size
    refine ah (a7 (vs := [_, _]) rfl (ld _ _ mem (txT x 1 ctx ++ endB x) _ (hT.lh hB) (hmv.lh hB) (by omega) o3.rd (by rw [List.length_append]; omega))) rfl ?_
    rintro v3 w5 ⟨o4, k5⟩
    have gl_o4 := hB.size
    replace hB := hB.trans k5
    refine oga rfl rfl (oga rfl rfl (aZ (ab [(6, _), (7, _)] ⟨rfl, rfl, trivial⟩ ?_)))
    refine bK hfin Tryd.results6 rfl rfl ?_
    refine ⟨_, by rw [hts0], ?_, hB⟩
    unfold tgB; rw [if_pos hts0]; exact o4.lo gl_o4
theorem lD {x : Fm} : ([numB (bitsOf 2) 1 2, numB (bitsOf 2) 1 2, cB x, endB x].flatten).length ≤ 700000 := by
 have h1 := cu (bitsOf 2) 1 2 (by decide); have h3 := @jt x; have h4 := @gQ x
 simp only [List.flatten_cons, List.flatten_nil, List.length_append, List.length_nil]; omega
theorem lV (g m b sg cf mv cv : Value) (x : Fm) (mem ctx : List UInt8) (w : World) (hT : Tabs w) (hg : RdB w g x.gs) (hm : RdB w m x.ms) (hb : RdB w b x.bs) (hs : RdB w sg x.ss) (hc : RdB w cf x.cs) (hmv : RdB w mv mem) (hml : mem.length ≤ 140737488351232) (hcv : RdB w cv ctx) : Rets Tryd.prog 8 [.agg [g, .int .i64 x.ep, .int .i64 x.fr, .int .i64 x.lf, m, .int .i64 x.kd, b, .int .i64 x.wi, sg, cf].toArray, mv, cv] w (fun v w' => ∃ u, v = .tuple #[u, .int .i64 (tgE x ctx)] ∧ OwnB w' w.heap.size u (ppB x mem ctx) ∧ Keep [] w w') := by
  have hB : Keep [] w w := Keep.refl _ _
  refine ad Tryd.func8 rfl (by decide) Tryd.ntmps8 rfl (fun fin _ hfin => ?_)
  refine aY ?_
  refine aX ?_
  refine ah (bz (cs := [g, .int .i64 x.ep, .int .i64 x.fr, .int .i64 x.lf, m, .int .i64 x.kd, b, .int .i64 x.wi, sg, cf]) rfl rfl) rfl ?_
  rintro _ w1 ⟨b1, rfl, eb1, hb1, k1, z1⟩
  have ge_b1 : w.heap.size ≤ b1 := by have := hB.size; omega
  replace hB := hB.trans k1
  clear eb1 z1
  refine oga rfl rfl ?_
  refine oga rfl rfl ?_
  refine aZ ?_
  refine aY ?_
  refine aX ?_
  refine a4 (an (cs' := [_, _, _, _, _, _, _, _, _, _]) cO bM rfl hb1 rfl rfl) rfl ?_
  refine ogm rfl rfl ?_
  refine ogm rfl rfl ?_
  refine ah (a7 (vs := [_, _, _]) rfl (jA g m b sg cf mv cv x mem ctx _ (hT.lh hB) (hg.lh hB) (hm.lh hB) (hb.lh hB) (hs.lh hB) (hc.lh hB) (hmv.lh hB) hml (hcv.lh hB))) rfl ?_
  rintro _ w2 ⟨u1, rfl, o1, k2⟩
  have gl_o1 := hB.size
  replace hb1 := hb1.lh k2
  replace hB := hB.trans k2
  refine ogm rfl rfl ?_
  refine a4 (bm (vs := [_, _]) rfl rfl) rfl ?_
  refine a4 (bm (vs := [_, _]) rfl rfl) rfl ?_
  refine oga rfl rfl ?_
  refine oga rfl rfl ?_
  refine aZ ?_
  refine ab [(3, _), (8, _), (9, _)] ⟨rfl, rfl, rfl, trivial⟩ ?_
  refine aY ?_
  refine aY ?_
  refine aX ?_
  refine ogm rfl rfl ?_
  refine a4 (cC rfl rfl) rfl ?_
  refine aZ ?_
  refine ar rfl (fun hc1 => ?_) (fun hc1 => ?_)
  · -- yes
    refine aY ?_
    refine aX ?_
    refine ogm rfl rfl ?_
    refine oga rfl rfl ?_
    refine oga rfl rfl ?_
    refine aZ ?_
    refine bK hfin Tryd.results8 rfl rfl ?_
    refine ⟨_, rfl, ?_, hB⟩
    unfold ppB; rw [if_neg (by assumption)]; exact a9 _ _ _ _
  · -- no
    refine a8 ?_
    refine aY ?_
    have hts := kt (show tgE x ctx = 0 by omega)
    have hlen := gR (dP hts.1).1
    have gl_d := hB.size
    refine dU 9 mixed [(3, _), (8, _), (9, _), (18, _), (19, _)] (fun jj v W => match jj with | 0 => OwnB W w2.heap.size v (numB (bitsOf 2) 1 2) | 1 => OwnB W w2.heap.size v (numB (bitsOf 2) 1 2) | 2 => v = .pointer (some ⟨b1, 0, none⟩) | 3 => v = .agg [g, .int .i64 x.ep, .int .i64 x.fr, .int .i64 x.lf, m, .int .i64 x.kd, b].toArray | 4 => OwnB W w2.heap.size v (cB x) | 5 => v = .agg [g, .int .i64 x.ep, .int .i64 x.fr, .int .i64 x.lf, m, .int .i64 x.kd, b, .int .i64 x.wi, sg, cf].toArray | 6 => OwnB W w2.heap.size v (endB x) | 7 => SlL W w2.heap.size 22 v [numB (bitsOf 2) 1 2, numB (bitsOf 2) 1 2, cB x, endB x] | 8 => OwnB W w2.heap.size v ([numB (bitsOf 2) 1 2, numB (bitsOf 2) 1 2, cB x, endB x].flatten) | _ => True) ⟨rfl, rfl, rfl, rfl, rfl, trivial⟩ (by decide) (by decide) rfl ?_ ?_ ?_
    · intro jj v W W' h k
      match jj, h with
      | 0, h => exact h.lh k
      | 1, h => exact h.lh k
      | 2, h => exact h
      | 3, h => exact h
      | 4, h => exact h.lh k
      | 5, h => exact h
      | 6, h => exact h.lh k
      | 7, h => exact h.lh k
      | 8, h => exact h.lh k
      | _ + 9, _ => trivial
    · refine ⟨?_, ?_, ?_, ?_, ?_, ?_, ?_, ?_, ?_, trivial⟩
      · refine ⟨[], rfl, ?_⟩; rintro W1 hk vs hd
        replace hb1 := hb1.lh hk
        replace o1 := o1.lh hk
        replace hB := hB.trans hk
        refine ⟨true, fun a _ => rfl, fun _ => ?_, fun h => by cases h⟩
        refine a6 [] trivial ?_
        refine (a7 (vs := [_, _]) rfl (cG 1 2 (by decide) _)).mono ?_
        rintro v W2 ⟨o1, k1⟩; exact ⟨k1, o1.lo hk.size⟩
      · refine ⟨[], rfl, ?_⟩; rintro W1 hk vs hd
        replace hb1 := hb1.lh hk
        replace o1 := o1.lh hk
        replace hB := hB.trans hk
        refine ⟨true, fun a _ => rfl, fun _ => ?_, fun h => by cases h⟩
        refine a6 [] trivial ?_
        refine (a7 (vs := [_, _]) rfl (cG 1 2 (by decide) _)).mono ?_
        rintro v W2 ⟨o1, k1⟩; exact ⟨k1, o1.lo hk.size⟩
      · refine ⟨[], rfl, ?_⟩; rintro W1 hk vs hd
        replace hb1 := hb1.lh hk
        replace o1 := o1.lh hk
        replace hB := hB.trans hk
        refine ⟨true, fun a _ => rfl, fun _ => ?_, fun h => by cases h⟩
        refine a6 [(3, _)] ⟨rfl, trivial⟩ ?_
        refine (Gives.does (aj 0 aN rfl dd (by decide) rfl rfl)).mono ?_
        rintro v W2 ⟨rfl, rfl⟩
        exact ⟨Keep.refl _ _, rfl⟩
      · refine ⟨[2], rfl, ?_⟩; rintro W1 hk vs hd
        have d2 : (vs 2) = .pointer (some ⟨b1, 0, none⟩) := hd 2 (by decide)
        replace hb1 := hb1.lh hk
        replace o1 := o1.lh hk
        replace hB := hB.trans hk
        refine ⟨true, fun a _ => rfl, fun _ => ?_, fun h => by cases h⟩
        refine a6 [(23, .pointer (some ⟨b1, 0, none⟩))] ⟨congrArg some d2, trivial⟩ ?_
        refine (Gives.does (an (cs' := [_, _, _, _, _, _, _]) fx dd rfl hb1 rfl rfl)).mono ?_
        rintro v W2 ⟨rfl, rfl⟩
        exact ⟨Keep.refl _ _, rfl⟩
      · refine ⟨[3], rfl, ?_⟩; rintro W1 hk vs hd
        have d3 : (vs 3) = .agg [g, .int .i64 x.ep, .int .i64 x.fr, .int .i64 x.lf, m, .int .i64 x.kd, b].toArray := hd 3 (by decide)
        replace hb1 := hb1.lh hk
        replace o1 := o1.lh hk
        replace hB := hB.trans hk
        refine ⟨true, fun a _ => rfl, fun _ => ?_, fun h => by cases h⟩
        refine a6 [(24, .agg [g, .int .i64 x.ep, .int .i64 x.fr, .int .i64 x.lf, m, .int .i64 x.kd, b].toArray)] ⟨congrArg some d3, trivial⟩ ?_
        refine (a7 (vs := [_]) rfl (fv g m b x.gs x.ms x.bs x.ep x.fr x.lf x.kd _ (hg.lh hB) (hm.lh hB) (hb.lh hB) hlen.1 hlen.2.1 hlen.2.2)).mono ?_
        rintro v W2 ⟨o1, k1⟩; exact ⟨k1, o1.lo hk.size⟩
      · refine ⟨[], rfl, ?_⟩; rintro W1 hk vs hd
        replace hb1 := hb1.lh hk
        replace o1 := o1.lh hk
        replace hB := hB.trans hk
        refine ⟨true, fun a _ => rfl, fun _ => ?_, fun h => by cases h⟩
        refine a6 [(3, _)] ⟨rfl, trivial⟩ ?_
        refine (Gives.does (an (cs' := [_, _, _, _, _, _, _, _, _, _]) cO bM rfl hb1 rfl rfl)).mono ?_
        rintro v W2 ⟨rfl, rfl⟩
        exact ⟨Keep.refl _ _, rfl⟩
      · refine ⟨[5], rfl, ?_⟩; rintro W1 hk vs hd
        have d5 : (vs 5) = .agg [g, .int .i64 x.ep, .int .i64 x.fr, .int .i64 x.lf, m, .int .i64 x.kd, b, .int .i64 x.wi, sg, cf].toArray := hd 5 (by decide)
        replace hb1 := hb1.lh hk
        replace o1 := o1.lh hk
        replace hB := hB.trans hk
        refine ⟨true, fun a _ => rfl, fun _ => ?_, fun h => by cases h⟩
        refine a6 [(26, .agg [g, .int .i64 x.ep, .int .i64 x.fr, .int .i64 x.lf, m, .int .i64 x.kd, b, .int .i64 x.wi, sg, cf].toArray)] ⟨congrArg some d5, trivial⟩ ?_
        refine (a7 (vs := [_]) rfl (gu g m b sg cf x _ (hs.lh hB) (hc.lh hB) (by have := (dP hts.1).2.2.1; omega) (by have := (dP hts.1).2.2.2; split at this <;> omega))).mono ?_
        rintro v W2 ⟨o1, k1⟩; exact ⟨k1, o1.lo hk.size⟩
      · refine ⟨[0, 1, 4, 6], rfl, ?_⟩; rintro W1 hk vs hd
        have d0 : OwnB W1 w2.heap.size (vs 0) (numB (bitsOf 2) 1 2) := hd 0 (by decide)
        have d1 : OwnB W1 w2.heap.size (vs 1) (numB (bitsOf 2) 1 2) := hd 1 (by decide)
        have d4 : OwnB W1 w2.heap.size (vs 4) (cB x) := hd 4 (by decide)
        have d6 : OwnB W1 w2.heap.size (vs 6) (endB x) := hd 6 (by decide)
        replace hb1 := hb1.lh hk
        replace o1 := o1.lh hk
        replace hB := hB.trans hk
        refine ⟨true, fun a _ => rfl, fun _ => ?_, fun h => by cases h⟩
        refine a6 [(21, vs 0), (22, vs 1), (25, vs 4), (27, vs 6)] ⟨rfl, rfl, rfl, rfl, trivial⟩ ?_
        refine (dG (m := 4) (ls := [numB (bitsOf 2) 1 2, numB (bitsOf 2) 1 2, cB x, endB x]) (xs := [.tmp 21, .tmp 22, .tmp 25, .tmp 27]) (us := [_, _, _, _]) aJ az rfl rfl (bA (by first | exact Rd.nil _ _ | exact (by first | assumption | exact Own.rd (by assumption) | exact Rd.lh (by assumption) hB | exact Own.rd (Own.lh (by assumption) hB))) (bA (by first | exact Rd.nil _ _ | exact (by first | assumption | exact Own.rd (by assumption) | exact Rd.lh (by assumption) hB | exact Own.rd (Own.lh (by assumption) hB))) (bA (by first | exact Rd.nil _ _ | exact (by first | assumption | exact Own.rd (by assumption) | exact Rd.lh (by assumption) hB | exact Own.rd (Own.lh (by assumption) hB))) (bA (by first | exact Rd.nil _ _ | exact (by first | assumption | exact Own.rd (by assumption) | exact Rd.lh (by assumption) hB | exact Own.rd (Own.lh (by assumption) hB))) (bt _))))) rfl rfl).mono ?_
        rintro v W2 ⟨o1, k1⟩; exact ⟨k1, o1.lo hk.size⟩
      · refine ⟨[7], rfl, ?_⟩; rintro W1 hk vs hd
        have d7 : SlL W1 w2.heap.size 22 (vs 7) [numB (bitsOf 2) 1 2, numB (bitsOf 2) 1 2, cB x, endB x] := hd 7 (by decide)
        replace hb1 := hb1.lh hk
        replace o1 := o1.lh hk
        replace hB := hB.trans hk
        refine ⟨true, fun a _ => rfl, fun _ => ?_, fun h => by cases h⟩
        refine a6 [(28, vs 7)] ⟨rfl, trivial⟩ ?_
        refine (a7 (vs := [_]) rfl (eL _ [numB (bitsOf 2) 1 2, numB (bitsOf 2) 1 2, cB x, endB x] _ _ (by assumption) (Nat.le_trans lD (by decide)))).mono ?_
        rintro v W2 ⟨o1, k1⟩; exact ⟨k1, o1.lo hk.size⟩
    rintro w3 k3 vs hv
    replace hb1 := hb1.lh k3
    replace o1 := o1.lh k3
    replace hB := hB.trans k3
    have e29 : OwnB w3 w2.heap.size (vs 8) ([numB (bitsOf 2) 1 2, numB (bitsOf 2) 1 2, cB x, endB x].flatten) := hv 8 (by decide) rfl
    refine dR [(29, vs 8), (3, _), (8, _), (9, _), (18, _), (19, _)] ⟨rfl, rfl, rfl, rfl, rfl, rfl, trivial⟩ ?_
    have o2 := e29
    refine oga rfl rfl ?_
    refine aZ ?_
    refine aY ?_
    refine aY ?_
    refine aX ?_
    refine a4 (aj 0 aN rfl dd (by decide) rfl rfl) rfl ?_
    refine a4 (aj 2 aD rfl bJ (by decide) rfl rfl) rfl ?_
    refine a4 (ac bZ rfl hb1 rfl) rfl ?_
    refine a4 (bF rfl rfl) rfl ?_
    refine aZ ?_
    refine ar rfl (fun hc2 => ?_) (fun hc2 => ?_)
    · -- yes
      refine aX ?_
      refine ogm rfl rfl ?_
      refine ogm rfl rfl ?_
      refine ah (dG (m := 1) (ls := [tgB x mem ctx]) (xs := [.tmp 35]) (us := [_]) aJ az rfl rfl (bA (by first | exact Rd.nil _ _ | exact (by first | assumption | exact Own.rd (by assumption) | exact Rd.lh (by assumption) hB | exact Own.rd (Own.lh (by assumption) hB))) (bt _)) rfl rfl) rfl ?_
      rintro v1 w4 ⟨sl1, k4⟩
      replace o1 := o1.lh k4
      replace o2 := o2.lh k4
      replace hB := hB.trans k4
      refine ah (a7 (vs := [_]) rfl (cK _ [tgB x mem ctx] _ _ (by assumption) (i5 (Nat.le_trans je (by decide))))) rfl ?_
      rintro v2 w5 ⟨o4, k5⟩
      have gl_o4 := hB.size
      replace o1 := o1.lh k5
      replace o2 := o2.lh k5
      replace sl1 := sl1.lh k5
      replace hB := hB.trans k5
      have gl_o2 := gl_d
      have hpl := @lD x
      have hvl := @eD (tgB x mem ctx)
      replace o2 : OwnB _ _ _ ([numB (bitsOf 2) 1 2, numB (bitsOf 2) 1 2, cB x, endB x].flatten) := o2.lo gl_o2
      have hsz_o5 := hB.size
      refine ah (bS (xs := [numB (bitsOf 2) 1 2, numB (bitsOf 2) 1 2, cB x, endB x].flatten) (ys := vecsB [tgB x mem ctx]) aA bu rfl o2 rfl o4.rd (by omega) (by omega)) rfl ?_
      rintro v3 w6 ⟨o5, k6, lb_o5, _⟩
      have sbx_o5 := fun x hx => (o2.blk x hx).1
      replace hB := hB.new k6 (fun x hx => .inl (o2.blk x hx).1)
      replace o5 : OwnB w6 w.heap.size v3 ([numB (bitsOf 2) 1 2, numB (bitsOf 2) 1 2, cB x, endB x].flatten ++ vecsB [tgB x mem ctx]) := by unfold OwnB; rw [List.length_append]; exact o5
      have gl_o5 := Nat.le_refl w.heap.size
      refine oga rfl rfl ?_
      refine aZ ?_
      refine ab [(10, _)] ⟨rfl, trivial⟩ ?_
      refine aY ?_
      refine aX ?_
      refine ogm rfl rfl ?_
      refine oga rfl rfl ?_
      refine oga rfl rfl ?_
      refine aZ ?_
      refine bK hfin Tryd.results8 rfl rfl ?_
      have e0 : tgE x ctx = 0 := by omega
      refine ⟨_, by rw [e0], ?_, hB⟩
      unfold ppB ppT; rw [if_pos e0]
      first | (rw [if_pos (by assumption)]; exact o5.lo gl_o5) | (rw [if_neg (by assumption), List.append_nil]; exact o5.lo gl_d)
    · -- no
      refine a8 ?_
      refine aY ?_
      refine aX ?_
      refine ogm rfl rfl ?_
      refine oga rfl rfl ?_
      refine oga rfl rfl ?_
      refine aZ ?_
      refine ab [(6, _), (7, _)] ⟨rfl, rfl, trivial⟩ ?_
      refine bK hfin Tryd.results8 rfl rfl ?_
      have e0 : tgE x ctx = 0 := by omega
      refine ⟨_, by rw [e0], ?_, hB⟩
      unfold ppB ppT; rw [if_pos e0]
      first | (rw [if_pos (by assumption)]; exact o2.lo gl_o2) | (rw [if_neg (by assumption), List.append_nil]; exact o2.lo gl_d)
end Go.Proofs.YtjfmmoonpdifcaaDoor.W
