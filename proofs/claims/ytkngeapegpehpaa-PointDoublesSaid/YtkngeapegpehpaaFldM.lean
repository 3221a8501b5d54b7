/- Numbers mod 2^255 - 19 as limbs: powers, bytes of words. Nothing here names a program. -/
import Derived.Test.YtkngeapegpehpaaFldL
import Derived.Test.YtkngeapegpehpaaEngO
namespace Go.Fld
open Go Go.Eng Go.Ed
theorem fpow_dbl (x : Fp) (i : Nat) : fpow x (2 ^ i) * fpow x (2 ^ i) = fpow x (2 ^ (i + 1)) := by rw [← fpow_add, Nat.pow_succ, Nat.mul_two]
theorem el_mul {f : Nat → Int} {x : Fp} {m n k : Nat} (h : El f (fpow x m * fpow x n)) (hk : Nat.beq (m + n) k = true) : El f (fpow x k) := by
  rw [← Nat.eq_of_beq_eq_true hk, fpow_add]; exact h
theorem el_sq {f : Nat → Int} {x : Fp} {m n k : Nat} (h : El f (fpow (fpow x m) (2 ^ n))) (hk : Nat.beq (m * 2 ^ n) k = true) : El f (fpow x k) := by
  rw [← Nat.eq_of_beq_eq_true hk, fpow_mul]; exact h
theorem el_one {f : Nat → Int} {x : Fp} (h : El f x) : El f (fpow x 1) := by rw [one_fpow]; exact h
theorem el_two : El (vecN [2, 0, 0, 0, 0]) (fpow 2 1) := ⟨by decide, by decide, by decide, by decide, by decide, by decide⟩
theorem el_zero : El (fun _ => 0) 0 := ⟨by decide, by decide, by decide, by decide, by decide, by decide⟩
theorem leI_drop (xs : List UInt8) (i : Nat) (h : i < xs.length) : leI (xs.drop i) = gb xs (i : Int) + 256 * leI (xs.drop (i + 1)) := by
  rw [List.drop_eq_getElem_cons h, leI]
  unfold gb
  simp [h]
theorem leI_end (xs : List UInt8) (i : Nat) (h : xs.length ≤ i) : leI (xs.drop i) = 0 := by rw [List.drop_eq_nil_of_le h, leI]
def byteN (n : Int) (j : Nat) : Int := n / 256 ^ j % 256
theorem bv_leB : ∀ (k : Nat) (n : Int) (i : Nat), bv (leB (n / 256 ^ i) k) = ivF .u8 (byteN n) i k
  | 0, _, _ => rfl
  | k + 1, n, i => by
    have e : (n / 256 ^ i) / 256 = n / 256 ^ (i + 1) := by rw [Int.pow_succ, Int.ediv_ediv_of_nonneg (Int.pow_nonneg (by decide))]
    have h0 := Int.emod_nonneg (n / 256 ^ i) (show (256 : Int) ≠ 0 by decide)
    have h1 := Int.emod_lt_of_pos (n / 256 ^ i) (show (0 : Int) < 256 by decide)
    simp only [leB, ivF]
    rw [← bv_leB k n (i + 1), ← e]
    have h2 : ((UInt8.ofNat (n / 256 ^ i % 256).toNat).toNat : Int) = byteN n i := by
      unfold byteN
      simp; omega
    show Value.int .u8 _ :: bv _ = _
    rw [h2]
theorem bv_fpB (a : Fp) : bv (fpB a) = iv .u8 32 (byteN a.val) := by
  have := bv_leB 32 (a.val : Int) 0
  rw [Int.pow_zero, Int.ediv_one] at this
  exact this
theorem words_bytes {V w0 w1 w2 w3 : Int} (h0 : In w0 0 18446744073709551615) (h1 : In w1 0 18446744073709551615) (h2 : In w2 0 18446744073709551615) (h3 : In w3 0 18446744073709551615) (hV : V = w0 + w1 * 18446744073709551616 + w2 * 340282366920938463463374607431768211456 + w3 * 6277101735386680763835789423207666416102355444464034512896) :
    iv .u8 32 (byteN V) = [.int .u8 (w0 / 1 % 256), .int .u8 (w0 / 256 % 256), .int .u8 (w0 / 65536 % 256), .int .u8 (w0 / 16777216 % 256), .int .u8 (w0 / 4294967296 % 256), .int .u8 (w0 / 1099511627776 % 256), .int .u8 (w0 / 281474976710656 % 256), .int .u8 (w0 / 72057594037927936), .int .u8 (w1 / 1 % 256), .int .u8 (w1 / 256 % 256), .int .u8 (w1 / 65536 % 256), .int .u8 (w1 / 16777216 % 256), .int .u8 (w1 / 4294967296 % 256), .int .u8 (w1 / 1099511627776 % 256), .int .u8 (w1 / 281474976710656 % 256), .int .u8 (w1 / 72057594037927936), .int .u8 (w2 / 1 % 256), .int .u8 (w2 / 256 % 256), .int .u8 (w2 / 65536 % 256), .int .u8 (w2 / 16777216 % 256), .int .u8 (w2 / 4294967296 % 256), .int .u8 (w2 / 1099511627776 % 256), .int .u8 (w2 / 281474976710656 % 256), .int .u8 (w2 / 72057594037927936), .int .u8 (w3 / 1 % 256), .int .u8 (w3 / 256 % 256), .int .u8 (w3 / 65536 % 256), .int .u8 (w3 / 16777216 % 256), .int .u8 (w3 / 4294967296 % 256), .int .u8 (w3 / 1099511627776 % 256), .int .u8 (w3 / 281474976710656 % 256), .int .u8 (w3 / 72057594037927936)] := by
  unfold In at *
  show [Value.int .u8 (byteN V 0), Value.int .u8 (byteN V 1), Value.int .u8 (byteN V 2), Value.int .u8 (byteN V 3), Value.int .u8 (byteN V 4), Value.int .u8 (byteN V 5), Value.int .u8 (byteN V 6), Value.int .u8 (byteN V 7), Value.int .u8 (byteN V 8), Value.int .u8 (byteN V 9), Value.int .u8 (byteN V 10), Value.int .u8 (byteN V 11), Value.int .u8 (byteN V 12), Value.int .u8 (byteN V 13), Value.int .u8 (byteN V 14), Value.int .u8 (byteN V 15), Value.int .u8 (byteN V 16), Value.int .u8 (byteN V 17), Value.int .u8 (byteN V 18), Value.int .u8 (byteN V 19), Value.int .u8 (byteN V 20), Value.int .u8 (byteN V 21), Value.int .u8 (byteN V 22), Value.int .u8 (byteN V 23), Value.int .u8 (byteN V 24), Value.int .u8 (byteN V 25), Value.int .u8 (byteN V 26), Value.int .u8 (byteN V 27), Value.int .u8 (byteN V 28), Value.int .u8 (byteN V 29), Value.int .u8 (byteN V 30), Value.int .u8 (byteN V 31)] = _
  unfold byteN
  rw [show V / 256 ^ 0 % 256 = w0 / 1 % 256 from by (have e : (256 : Int) ^ 0 = 1 := rfl); rw [e]; omega]
  rw [show V / 256 ^ 1 % 256 = w0 / 256 % 256 from by (have e : (256 : Int) ^ 1 = 256 := rfl); rw [e]; omega]
  rw [show V / 256 ^ 2 % 256 = w0 / 65536 % 256 from by (have e : (256 : Int) ^ 2 = 65536 := rfl); rw [e]; omega]
  rw [show V / 256 ^ 3 % 256 = w0 / 16777216 % 256 from by (have e : (256 : Int) ^ 3 = 16777216 := rfl); rw [e]; omega]
  rw [show V / 256 ^ 4 % 256 = w0 / 4294967296 % 256 from by (have e : (256 : Int) ^ 4 = 4294967296 := rfl); rw [e]; omega]
  rw [show V / 256 ^ 5 % 256 = w0 / 1099511627776 % 256 from by (have e : (256 : Int) ^ 5 = 1099511627776 := rfl); rw [e]; omega]
  rw [show V / 256 ^ 6 % 256 = w0 / 281474976710656 % 256 from by (have e : (256 : Int) ^ 6 = 281474976710656 := rfl); rw [e]; omega]
  rw [show V / 256 ^ 7 % 256 = w0 / 72057594037927936 from by (have e : (256 : Int) ^ 7 = 72057594037927936 := rfl); rw [e]; omega]
  rw [show V / 256 ^ 8 % 256 = w1 / 1 % 256 from by (have e : (256 : Int) ^ 8 = 18446744073709551616 := rfl); rw [e]; omega]
  rw [show V / 256 ^ 9 % 256 = w1 / 256 % 256 from by (have e : (256 : Int) ^ 9 = 4722366482869645213696 := rfl); rw [e]; omega]
  rw [show V / 256 ^ 10 % 256 = w1 / 65536 % 256 from by (have e : (256 : Int) ^ 10 = 1208925819614629174706176 := rfl); rw [e]; omega]
  rw [show V / 256 ^ 11 % 256 = w1 / 16777216 % 256 from by (have e : (256 : Int) ^ 11 = 309485009821345068724781056 := rfl); rw [e]; omega]
  rw [show V / 256 ^ 12 % 256 = w1 / 4294967296 % 256 from by (have e : (256 : Int) ^ 12 = 79228162514264337593543950336 := rfl); rw [e]; omega]
  rw [show V / 256 ^ 13 % 256 = w1 / 1099511627776 % 256 from by (have e : (256 : Int) ^ 13 = 20282409603651670423947251286016 := rfl); rw [e]; omega]
  rw [show V / 256 ^ 14 % 256 = w1 / 281474976710656 % 256 from by (have e : (256 : Int) ^ 14 = 5192296858534827628530496329220096 := rfl); rw [e]; omega]
  rw [show V / 256 ^ 15 % 256 = w1 / 72057594037927936 from by (have e : (256 : Int) ^ 15 = 1329227995784915872903807060280344576 := rfl); rw [e]; omega]
  rw [show V / 256 ^ 16 % 256 = w2 / 1 % 256 from by (have e : (256 : Int) ^ 16 = 340282366920938463463374607431768211456 := rfl); rw [e]; omega]
  rw [show V / 256 ^ 17 % 256 = w2 / 256 % 256 from by (have e : (256 : Int) ^ 17 = 87112285931760246646623899502532662132736 := rfl); rw [e]; omega]
  rw [show V / 256 ^ 18 % 256 = w2 / 65536 % 256 from by (have e : (256 : Int) ^ 18 = 22300745198530623141535718272648361505980416 := rfl); rw [e]; omega]
  rw [show V / 256 ^ 19 % 256 = w2 / 16777216 % 256 from by (have e : (256 : Int) ^ 19 = 5708990770823839524233143877797980545530986496 := rfl); rw [e]; omega]
  rw [show V / 256 ^ 20 % 256 = w2 / 4294967296 % 256 from by (have e : (256 : Int) ^ 20 = 1461501637330902918203684832716283019655932542976 := rfl); rw [e]; omega]
  rw [show V / 256 ^ 21 % 256 = w2 / 1099511627776 % 256 from by (have e : (256 : Int) ^ 21 = 374144419156711147060143317175368453031918731001856 := rfl); rw [e]; omega]
  rw [show V / 256 ^ 22 % 256 = w2 / 281474976710656 % 256 from by (have e : (256 : Int) ^ 22 = 95780971304118053647396689196894323976171195136475136 := rfl); rw [e]; omega]
  rw [show V / 256 ^ 23 % 256 = w2 / 72057594037927936 from by (have e : (256 : Int) ^ 23 = 24519928653854221733733552434404946937899825954937634816 := rfl); rw [e]; omega]
  rw [show V / 256 ^ 24 % 256 = w3 / 1 % 256 from by (have e : (256 : Int) ^ 24 = 6277101735386680763835789423207666416102355444464034512896 := rfl); rw [e]; omega]
  rw [show V / 256 ^ 25 % 256 = w3 / 256 % 256 from by (have e : (256 : Int) ^ 25 = 1606938044258990275541962092341162602522202993782792835301376 := rfl); rw [e]; omega]
  rw [show V / 256 ^ 26 % 256 = w3 / 65536 % 256 from by (have e : (256 : Int) ^ 26 = 411376139330301510538742295639337626245683966408394965837152256 := rfl); rw [e]; omega]
  rw [show V / 256 ^ 27 % 256 = w3 / 16777216 % 256 from by (have e : (256 : Int) ^ 27 = 105312291668557186697918027683670432318895095400549111254310977536 := rfl); rw [e]; omega]
  rw [show V / 256 ^ 28 % 256 = w3 / 4294967296 % 256 from by (have e : (256 : Int) ^ 28 = 26959946667150639794667015087019630673637144422540572481103610249216 := rfl); rw [e]; omega]
  rw [show V / 256 ^ 29 % 256 = w3 / 1099511627776 % 256 from by (have e : (256 : Int) ^ 29 = 6901746346790563787434755862277025452451108972170386555162524223799296 := rfl); rw [e]; omega]
  rw [show V / 256 ^ 30 % 256 = w3 / 281474976710656 % 256 from by (have e : (256 : Int) ^ 30 = 1766847064778384329583297500742918515827483896875618958121606201292619776 := rfl); rw [e]; omega]
  rw [show V / 256 ^ 31 % 256 = w3 / 72057594037927936 from by (have e : (256 : Int) ^ 31 = 452312848583266388373324160190187140051835877600158453279131187530910662656 := rfl); rw [e]; omega]
/-- Carried twice, limbs of 52 bits are limbs of 51. -/
theorem carry_twice {f0 f1 f2 f3 f4 c0 c1 c2 c3 c4 g0 g1 g2 g3 g4 d0 d1 d2 d3 d4 h0 : Int} (e0 : c0 = f0 / 2251799813685248) (e1 : c1 = (f1 + c0) / 2251799813685248) (e2 : c2 = (f2 + c1) / 2251799813685248) (e3 : c3 = (f3 + c2) / 2251799813685248) (e4 : c4 = (f4 + c3) / 2251799813685248)
    (k0 : g0 = f0 % 2251799813685248 + 19 * c4) (k1 : g1 = (f1 + c0) % 2251799813685248) (k2 : g2 = (f2 + c1) % 2251799813685248) (k3 : g3 = (f3 + c2) % 2251799813685248) (k4 : g4 = (f4 + c3) % 2251799813685248)
    (r0 : In f0 0 4503599627370495) (r1 : In f1 0 4503599627370495) (r2 : In f2 0 4503599627370495) (r3 : In f3 0 4503599627370495) (r4 : In f4 0 4503599627370495)
    (e0' : d0 = g0 / 2251799813685248) (e1' : d1 = (g1 + d0) / 2251799813685248) (e2' : d2 = (g2 + d1) / 2251799813685248) (e3' : d3 = (g3 + d2) / 2251799813685248) (e4' : d4 = (g4 + d3) / 2251799813685248) (k0' : h0 = g0 % 2251799813685248 + 19 * d4) : In h0 0 2251799813685247 := by
  unfold In at *
  omega
theorem limb1 {a b : Int} (ha : In a 0 18446744073709551615) (hb : In b 0 18446744073709551615) : (a / 2251799813685248 + b * 8192 % 18446744073709551616) % 2251799813685248 = a / 2251799813685248 + 8192 * (b % 274877906944) := by
  unfold In at *
  have e : b * 8192 % 18446744073709551616 = 8192 * (b % 2251799813685248) := by omega
  rw [e]; omega
theorem limb2 {a b : Int} (ha : In a 0 18446744073709551615) (hb : In b 0 18446744073709551615) : (a / 274877906944 + b * 67108864 % 18446744073709551616) % 2251799813685248 = a / 274877906944 + 67108864 * (b % 33554432) := by
  unfold In at *
  have e : b * 67108864 % 18446744073709551616 = 67108864 * (b % 274877906944) := by omega
  rw [e]; omega
theorem limb3 {a b : Int} (ha : In a 0 18446744073709551615) (hb : In b 0 18446744073709551615) : (a / 33554432 + b * 549755813888 % 18446744073709551616) % 2251799813685248 = a / 33554432 + 549755813888 * (b % 4096) := by
  unfold In at *
  have e : b * 549755813888 % 18446744073709551616 = 549755813888 * (b % 33554432) := by omega
  rw [e]; omega
theorem get_val {w0 w1 w2 w3 : Int} (h0 : In w0 0 18446744073709551615) (h1 : In w1 0 18446744073709551615) (h2 : In w2 0 18446744073709551615) (h3 : In w3 0 18446744073709551615) :
    w0 % 2251799813685248 + 19 * (w3 / 9223372036854775808) + (w0 / 2251799813685248 + w1 * 8192 % 18446744073709551616) % 2251799813685248 * 2251799813685248 + (w1 / 274877906944 + w2 * 67108864 % 18446744073709551616) % 2251799813685248 * 5070602400912917605986812821504 + (w2 / 33554432 + w3 * 549755813888 % 18446744073709551616) % 2251799813685248 * 11417981541647679048466287755595961091061972992 + w3 / 4096 % 2251799813685248 * 25711008708143844408671393477458601640355247900524685364822016 =
    w0 + w1 * 18446744073709551616 + w2 * 340282366920938463463374607431768211456 + w3 * 6277101735386680763835789423207666416102355444464034512896 - w3 / 9223372036854775808 * 57896044618658097711785492504343953926634992332820282019728792003956564819949 := by
  rw [limb1 h0 h1, limb2 h1 h2, limb3 h2 h3]
  unfold In at *
  omega
theorem put_words {x0 x1 x2 x3 x4 : Int} (h0 : In x0 0 2251799813685247) (h1 : In x1 0 2251799813685247) (h2 : In x2 0 2251799813685247) (h3 : In x3 0 2251799813685247) (h4 : In x4 0 2251799813685247) :
    x0 + x1 * 2251799813685248 + x2 * 5070602400912917605986812821504 + x3 * 11417981541647679048466287755595961091061972992 + x4 * 25711008708143844408671393477458601640355247900524685364822016 = x0 + x1 * 2251799813685248 % 18446744073709551616 + (x1 / 8192 + x2 * 274877906944 % 18446744073709551616) * 18446744073709551616 + (x2 / 67108864 + x3 * 33554432 % 18446744073709551616) * 340282366920938463463374607431768211456 + (x3 / 549755813888 + x4 * 4096) * 6277101735386680763835789423207666416102355444464034512896 := by
  unfold In at *
  have e1 : x1 * 2251799813685248 % 18446744073709551616 = 2251799813685248 * (x1 % 8192) := by omega
  have e2 : x2 * 274877906944 % 18446744073709551616 = 274877906944 * (x2 % 67108864) := by omega
  have e3 : x3 * 33554432 % 18446744073709551616 = 33554432 * (x3 % 549755813888) := by omega
  rw [e1, e2, e3]; omega
theorem fpB_dec (a b : Fp) : decide (fpB a = fpB b) = decide (a = b) := by
  by_cases h : a = b
  · subst h; simp
  · rw [decide_eq_false h, decide_eq_false (fun e => h (fpB_inj e))]
end Go.Fld
