/- Contracts and laws, part 2 of 6: what each function of the program and of the reference computes, shown once. -/
import Derived.Stop.BytesEq
import Derived.Test.YtkngeapegpehpaaQsa
namespace Go.Eng
open Go Go.IntWalk
theorem or_in {k : IntKind} {x y e : Int} (hk : uns k = true) (he : bits .or k x y = e) : In e 0 (kmax k) := he ▸ bits_in hk _ _ _
theorem zero_or {k : IntKind} {y a b : Int} (hk : uns k = true) (hy : In y a b) (h0 : decide (0 ≤ a) = true) (hf : fits k a b = true) : bits .or k 0 y = y := by
  have h1 := of_decide_eq_true h0
  have hf' := hf
  simp only [fits, Bool.and_eq_true, decide_eq_true_eq] at hf'
  have hkm : kmax k + 1 = 2 ^ k.bits := by cases k <;> first | (exact absurd hk (by decide)) | rfl
  have hb : y < 2 ^ k.bits := by unfold In at hy; omega
  have h2 := bits_join k k.bits (Nat.le_refl _) (wraps_of hk) k.bits 0 y (Int.le_refl _) (Int.zero_emod _) (Int.pow_pos (by decide)) (by unfold In at hy; omega) hb hb
  rw [h2, Int.zero_add]
section
variable {P : Program} {n : Nat} {f : Fr} {w : World} {ty : TypeId} {fin : Exit → Act → World → Prop} {k : List KI}
theorem results_cc {fn : Func} {a : Act} {w : World} {t u : Nat} {T U : TypeId} {b c : Addr} {v x : Value} (h : fn.results = #[.cell t T, .cell u U]) (h1 : a.tmps.getD t undef = .pointer (some b)) (h3 : (loadVar T b).run P w = .ok v w) (h2 : a.tmps.getD u undef = .pointer (some c)) (h4 : (loadVar U c).run P w = .ok x w) : (results fn a.tmps).run P w = .ok (.tuple #[v, x]) w := by
  have h1' : (a.tmps[t]?).getD undef = .pointer (some b) := by rw [← Array.getD_eq_getD_getElem?]; exact h1
  have h2' : (a.tmps[u]?).getD undef = .pointer (some c) := by rw [← Array.getD_eq_getD_getElem?]; exact h2
  simp [results, h, h1, h1', h2, h2', asAddr, h3, h4]
theorem tw_retcc {fn : Func} {R : Value → World → Prop} (hfin : ∀ a w, (a.defers = [] ∧ ∃ v, (results fn a.tmps).run P w = .ok v w ∧ R v w) → fin .ret a w ∧ fin .normal a w) {t u : Nat} {T U : TypeId} {b c : Addr} {v x : Value} (hres : fn.results = #[.cell t T, .cell u U]) (h1 : f.get t = some (.pointer (some b))) (h3 : (loadVar T b).run P w = .ok v w) (h2 : f.get u = some (.pointer (some c))) (h4 : (loadVar U c).run P w = .ok x w) (hR : R (.tuple #[v, x]) w) :
    TW P fin n (.c .ret :: k) f w := fun a ha => wp_ret (by
  rw [KQ_ret]
  exact (hfin a w ⟨ha.defers, _, results_cc hres (ha.get t _ h1) h3 (ha.get u _ h2) h4, hR⟩).1)
section
variable {l : List Oper} {p s0 i : Nat} {T cs r : List Nat} {Fin : Fr → World → Prop}
theorem pa_gdk (f1 f2 : Fr) {op : Op} {d : Nat} {pos : String} {aft : Array Edge} {j : Nat} {want c : Bool} {V : Value} (ho : l[i]? = some ⟨some d, op, ty, pos, aft, some (j, want)⟩) (hc : cs.contains i = true) (hs : Fr.sub f1 f) (hk : slotsOk l p i f1 = true)
    (hG : Grd n l.toArray f1 j want c) (hu : UndF c f2 f1) (hV : cblk V = []) (hr : ∀ w1, Keep [] w w1 → c = true → Does P n f2 w1 op ty (fun v w' => v = V ∧ Keep [] w1 w'))
    (h : ∀ w', Keep [] w w' → PA P n l p T s0 (fun i => cs.contains i) Fin r ((d, gv c V) :: f) w') : PA P n l p T s0 (fun i => cs.contains i) Fin (i :: r) f w := by
  unfold PA
  refine ⟨_, f1, ho, hs, hk, .inl ⟨hc, fun w1 k1 a ha K Q hK => ?_⟩⟩
  have hg := hG a ha
  have hwt : Region.wanted ⟨some d, op, ty, pos, aft, some (j, want)⟩ (yielded l.toArray a.tmps) = c := hg
  rw [hwt]
  refine ⟨fun hct => ?_, fun hcf => ?_⟩
  · refine hr w1 k1 hct a (ha.undF hct hu) _ _ _ _ _ _ (fun v w' hv => hK _ _ ⟨hv.2.weak, ?_, ?_⟩)
    · rw [hv.1, hV]; intro x hx; cases hx
    · have := h w' (k1.trans hv.2)
      rw [gv_true hct] at this
      rw [frPut_at ho, hv.1]; exact this
  · refine hK _ _ ⟨Keep.refl _ _, (fun x hx => by cases hx), ?_⟩
    have := h w1 k1
    rw [gv_false hcf] at this
    rw [frPut_at ho]; exact this
theorem pa_pand {x y : Tmp} {d : Nat} {pos : String} {aft : Array Edge} {j dj : Nat} {want c c2 b b2 : Bool} (f1 : Fr) (ho : l[i]? = some ⟨some d, .pick (.tmp x) (.tmp y) (.const (.bool false)), ty, pos, aft, some (j, want)⟩) (hc : cs.contains i = false) (hs : Fr.sub f1 f) (hk : slotsOk l p i f1 = true)
    (hG : Grd n l.toArray f1 j want c) (hx : Und c f1 x (.bool b)) (hy : f1.get y = some (gv c2 (.bool b2))) (hc2 : c2 = (c && (b == true))) (hxy : Nat.beq y x = false)
    (h : PA P n l p T s0 (fun i => cs.contains i) Fin r ((d, gv c (.bool (b && b2))) :: f) w) : PA P n l p T s0 (fun i => cs.contains i) Fin (i :: r) f w := by
  cases c with
  | false => exact pa_gg (c := false) f1 [] ho hc hs hk hG trivial (fun h => by cases h) h
  | true =>
    have hc2' : c2 = (b == true) := by rw [hc2, Bool.true_and]
    obtain ⟨u, hu, hu'⟩ := hx
    have hu2 := hu' rfl
    subst hu2
    refine pa_gg f1 [(y, gv c2 (.bool b2)), (x, .bool b)] ho hc hs hk hG ⟨und0 hy, und0 hu, trivial⟩ (fun _ w' _ => g_pand (x := .tmp x) (y := .tmp y) ?_ ?_ hc2') h
    · show Fr.get _ x = _
      simp only [Fr.get, hxy, cond_false, Nat.beq_refl, cond_true]
    · show Fr.get _ y = _
      simp only [Fr.get, Nat.beq_refl, cond_true]
end
theorem g_sap {x : Operand} {t e : TypeId} {m : Nat} {s m' : Nat} {v : Value} {cs : List Value} (ht : P.underlying t = some (.array m e)) (hx : f.ev x = some v) (hr : Rd w s v m' cs) (h : Nat.ble m m' = true) (h0 : Nat.blt 0 m = true) :
    Gives P n f w (.sliceToArrayPointer t x) ty (.pointer (some (ea v 0))) w := by
  intro a ha dst pos aft g
  obtain ⟨A, c, rfl, h1, h2, h3, h4, h5⟩ := hr
  have hle := Nat.le_of_ble_eq_true h
  have hlt := blt_lt h0
  cases A with
  | none => have := h4 rfl; omega
  | some a0 =>
    have hn : ¬ m' < m := by omega
    simp [execOp, ha.ev hx, Instr.arrayAt, run_underlying ht, hn, ea, Addr.add]
theorem g_ldaB {x : Operand} {t : TypeId} {zs : List Value} {s b : Nat} {v : Value} {xs : List UInt8} (ht : agB P t = true) (hs : Ty P t zs s b) (hx : f.ev x = some (.pointer (some (ea v 0)))) (hr : RdB w v xs) (hl : xs.length = s) (h0 : Nat.blt 0 s = true) :
    Gives P n f w (.load t x) ty (.agg (bv xs).toArray) w := by
  refine g_lda ht hs hx ?_ (by rw [bv_length]; exact hl)
  obtain ⟨A, c, rfl, h1, h2, h3, h4, h5⟩ := hr
  have hlt := blt_lt h0
  cases A with
  | none => have := h4 rfl; omega
  | some a0 => have := h5 a0 rfl; simpa [ea, Addr.add] using this
theorem g_eqB {t e u : TypeId} {m : Nat} {x y : Operand} {xs ys : List UInt8} (ht : P.underlying t = some (.array m e)) (he : P.underlying e = some (.int .u8)) (hs : ∀ w, (sizeOf e).run P w = .ok 1 w) (hg : P.eqGuardType P.depth t = false)
    (hx : f.ev x = some (.agg (bv xs).toArray)) (hy : f.ev y = some (.agg (bv ys).toArray)) (hxl : xs.length = m) (hyl : ys.length = m) :
    Gives P n f w (.binOp .eql t x y u) ty (.bool (decide (xs = ys))) w :=
  run_bin hx hy (fun x y => run_eqGuard_agg w _ _ _ _ _ _ hg) (by
    have := run_eql_bytes (P := P) w t e m ht he hs xs ys hxl hyl
    have e1 : (xs == ys) = decide (xs = ys) := by cases h : xs == ys <;> simp_all
    rw [e1] at this
    exact this)
end
end Go.Eng
namespace Go.Fld
open Go Go.Eng Go.Ed
theorem fpow_dbl (x : Fp) (i : Nat) : fpow x (2 ^ i) * fpow x (2 ^ i) = fpow x (2 ^ (i + 1)) := by rw [← fpow_add, Nat.pow_succ, Nat.mul_two]
theorem el_mul {f : Nat → Int} {x : Fp} {m n k : Nat} (h : El f (fpow x m * fpow x n)) (hk : Nat.beq (m + n) k = true) : El f (fpow x k) := by
  rw [← Nat.eq_of_beq_eq_true hk, fpow_add]; exact h
theorem el_sq {f : Nat → Int} {x : Fp} {m n k : Nat} (h : El f (fpow (fpow x m) (2 ^ n))) (hk : Nat.beq (m * 2 ^ n) k = true) : El f (fpow x k) := by
  rw [← Nat.eq_of_beq_eq_true hk, fpow_mul]; exact h
theorem el_one {f : Nat → Int} {x : Fp} (h : El f x) : El f (fpow x 1) := by rw [one_fpow]; exact h
theorem el_two : El (vecN [2, 0, 0, 0, 0]) (fpow 2 1) := ⟨by decide, by decide, by decide, by decide, by decide, by decide⟩
theorem el_zero : El (fun _ => 0) 0 := ⟨by decide, by decide, by decide, by decide, by decide, by decide⟩
theorem leI_drop (xs : List UInt8) (i : Nat) (h : i < xs.length) : leI (xs.drop i) = gb xs (i : Int) + 256 * leI (xs.drop (i + 1)) := by
  rw [List.drop_eq_getElem_cons h, leI]
  unfold gb
  simp [h]
theorem leI_end (xs : List UInt8) (i : Nat) (h : xs.length ≤ i) : leI (xs.drop i) = 0 := by rw [List.drop_eq_nil_of_le h, leI]
def byteN (n : Int) (j : Nat) : Int := n / 256 ^ j % 256
theorem bv_leB : ∀ (k : Nat) (n : Int) (i : Nat), bv (leB (n / 256 ^ i) k) = ivF .u8 (byteN n) i k
  | 0, _, _ => rfl
  | k + 1, n, i => by
    have e : (n / 256 ^ i) / 256 = n / 256 ^ (i + 1) := by rw [Int.pow_succ, Int.ediv_ediv_of_nonneg (Int.pow_nonneg (by decide))]
    have h0 := Int.emod_nonneg (n / 256 ^ i) (show (256 : Int) ≠ 0 by decide)
    have h1 := Int.emod_lt_of_pos (n / 256 ^ i) (show (0 : Int) < 256 by decide)
    simp only [leB, ivF]
    rw [← bv_leB k n (i + 1), ← e]
    have h2 : ((UInt8.ofNat (n / 256 ^ i % 256).toNat).toNat : Int) = byteN n i := by
      unfold byteN
      simp; omega
    show Value.int .u8 _ :: bv _ = _
    rw [h2]
theorem bv_fpB (a : Fp) : bv (fpB a) = iv .u8 32 (byteN a.val) := by
  have := bv_leB 32 (a.val : Int) 0
  rw [Int.pow_zero, Int.ediv_one] at this
  exact this
theorem words_bytes {V w0 w1 w2 w3 : Int} (h0 : In w0 0 18446744073709551615) (h1 : In w1 0 18446744073709551615) (h2 : In w2 0 18446744073709551615) (h3 : In w3 0 18446744073709551615) (hV : V = w0 + w1 * 18446744073709551616 + w2 * 340282366920938463463374607431768211456 + w3 * 6277101735386680763835789423207666416102355444464034512896) :
    iv .u8 32 (byteN V) = [.int .u8 (w0 / 1 % 256), .int .u8 (w0 / 256 % 256), .int .u8 (w0 / 65536 % 256), .int .u8 (w0 / 16777216 % 256), .int .u8 (w0 / 4294967296 % 256), .int .u8 (w0 / 1099511627776 % 256), .int .u8 (w0 / 281474976710656 % 256), .int .u8 (w0 / 72057594037927936), .int .u8 (w1 / 1 % 256), .int .u8 (w1 / 256 % 256), .int .u8 (w1 / 65536 % 256), .int .u8 (w1 / 16777216 % 256), .int .u8 (w1 / 4294967296 % 256), .int .u8 (w1 / 1099511627776 % 256), .int .u8 (w1 / 281474976710656 % 256), .int .u8 (w1 / 72057594037927936), .int .u8 (w2 / 1 % 256), .int .u8 (w2 / 256 % 256), .int .u8 (w2 / 65536 % 256), .int .u8 (w2 / 16777216 % 256), .int .u8 (w2 / 4294967296 % 256), .int .u8 (w2 / 1099511627776 % 256), .int .u8 (w2 / 281474976710656 % 256), .int .u8 (w2 / 72057594037927936), .int .u8 (w3 / 1 % 256), .int .u8 (w3 / 256 % 256), .int .u8 (w3 / 65536 % 256), .int .u8 (w3 / 16777216 % 256), .int .u8 (w3 / 4294967296 % 256), .int .u8 (w3 / 1099511627776 % 256), .int .u8 (w3 / 281474976710656 % 256), .int .u8 (w3 / 72057594037927936)] := by
  unfold In at *
  show [Value.int .u8 (byteN V 0), Value.int .u8 (byteN V 1), Value.int .u8 (byteN V 2), Value.int .u8 (byteN V 3), Value.int .u8 (byteN V 4), Value.int .u8 (byteN V 5), Value.int .u8 (byteN V 6), Value.int .u8 (byteN V 7), Value.int .u8 (byteN V 8), Value.int .u8 (byteN V 9), Value.int .u8 (byteN V 10), Value.int .u8 (byteN V 11), Value.int .u8 (byteN V 12), Value.int .u8 (byteN V 13), Value.int .u8 (byteN V 14), Value.int .u8 (byteN V 15), Value.int .u8 (byteN V 16), Value.int .u8 (byteN V 17), Value.int .u8 (byteN V 18), Value.int .u8 (byteN V 19), Value.int .u8 (byteN V 20), Value.int .u8 (byteN V 21), Value.int .u8 (byteN V 22), Value.int .u8 (byteN V 23), Value.int .u8 (byteN V 24), Value.int .u8 (byteN V 25), Value.int .u8 (byteN V 26), Value.int .u8 (byteN V 27), Value.int .u8 (byteN V 28), Value.int .u8 (byteN V 29), Value.int .u8 (byteN V 30), Value.int .u8 (byteN V 31)] = _
  unfold byteN
  rw [show V / 256 ^ 0 % 256 = w0 / 1 % 256 from by (have e : (256 : Int) ^ 0 = 1 := rfl); rw [e]; omega]
  rw [show V / 256 ^ 1 % 256 = w0 / 256 % 256 from by (have e : (256 : Int) ^ 1 = 256 := rfl); rw [e]; omega]
  rw [show V / 256 ^ 2 % 256 = w0 / 65536 % 256 from by (have e : (256 : Int) ^ 2 = 65536 := rfl); rw [e]; omega]
  rw [show V / 256 ^ 3 % 256 = w0 / 16777216 % 256 from by (have e : (256 : Int) ^ 3 = 16777216 := rfl); rw [e]; omega]
  rw [show V / 256 ^ 4 % 256 = w0 / 4294967296 % 256 from by (have e : (256 : Int) ^ 4 = 4294967296 := rfl); rw [e]; omega]
  rw [show V / 256 ^ 5 % 256 = w0 / 1099511627776 % 256 from by (have e : (256 : Int) ^ 5 = 1099511627776 := rfl); rw [e]; omega]
  rw [show V / 256 ^ 6 % 256 = w0 / 281474976710656 % 256 from by (have e : (256 : Int) ^ 6 = 281474976710656 := rfl); rw [e]; omega]
  rw [show V / 256 ^ 7 % 256 = w0 / 72057594037927936 from by (have e : (256 : Int) ^ 7 = 72057594037927936 := rfl); rw [e]; omega]
  rw [show V / 256 ^ 8 % 256 = w1 / 1 % 256 from by (have e : (256 : Int) ^ 8 = 18446744073709551616 := rfl); rw [e]; omega]
  rw [show V / 256 ^ 9 % 256 = w1 / 256 % 256 from by (have e : (256 : Int) ^ 9 = 4722366482869645213696 := rfl); rw [e]; omega]
  rw [show V / 256 ^ 10 % 256 = w1 / 65536 % 256 from by (have e : (256 : Int) ^ 10 = 1208925819614629174706176 := rfl); rw [e]; omega]
  rw [show V / 256 ^ 11 % 256 = w1 / 16777216 % 256 from by (have e : (256 : Int) ^ 11 = 309485009821345068724781056 := rfl); rw [e]; omega]
  rw [show V / 256 ^ 12 % 256 = w1 / 4294967296 % 256 from by (have e : (256 : Int) ^ 12 = 79228162514264337593543950336 := rfl); rw [e]; omega]
  rw [show V / 256 ^ 13 % 256 = w1 / 1099511627776 % 256 from by (have e : (256 : Int) ^ 13 = 20282409603651670423947251286016 := rfl); rw [e]; omega]
  rw [show V / 256 ^ 14 % 256 = w1 / 281474976710656 % 256 from by (have e : (256 : Int) ^ 14 = 5192296858534827628530496329220096 := rfl); rw [e]; omega]
  rw [show V / 256 ^ 15 % 256 = w1 / 72057594037927936 from by (have e : (256 : Int) ^ 15 = 1329227995784915872903807060280344576 := rfl); rw [e]; omega]
  rw [show V / 256 ^ 16 % 256 = w2 / 1 % 256 from by (have e : (256 : Int) ^ 16 = 340282366920938463463374607431768211456 := rfl); rw [e]; omega]
  rw [show V / 256 ^ 17 % 256 = w2 / 256 % 256 from by (have e : (256 : Int) ^ 17 = 87112285931760246646623899502532662132736 := rfl); rw [e]; omega]
  rw [show V / 256 ^ 18 % 256 = w2 / 65536 % 256 from by (have e : (256 : Int) ^ 18 = 22300745198530623141535718272648361505980416 := rfl); rw [e]; omega]
  rw [show V / 256 ^ 19 % 256 = w2 / 16777216 % 256 from by (have e : (256 : Int) ^ 19 = 5708990770823839524233143877797980545530986496 := rfl); rw [e]; omega]
  rw [show V / 256 ^ 20 % 256 = w2 / 4294967296 % 256 from by (have e : (256 : Int) ^ 20 = 1461501637330902918203684832716283019655932542976 := rfl); rw [e]; omega]
  rw [show V / 256 ^ 21 % 256 = w2 / 1099511627776 % 256 from by (have e : (256 : Int) ^ 21 = 374144419156711147060143317175368453031918731001856 := rfl); rw [e]; omega]
  rw [show V / 256 ^ 22 % 256 = w2 / 281474976710656 % 256 from by (have e : (256 : Int) ^ 22 = 95780971304118053647396689196894323976171195136475136 := rfl); rw [e]; omega]
  rw [show V / 256 ^ 23 % 256 = w2 / 72057594037927936 from by (have e : (256 : Int) ^ 23 = 24519928653854221733733552434404946937899825954937634816 := rfl); rw [e]; omega]
  rw [show V / 256 ^ 24 % 256 = w3 / 1 % 256 from by (have e : (256 : Int) ^ 24 = 6277101735386680763835789423207666416102355444464034512896 := rfl); rw [e]; omega]
  rw [show V / 256 ^ 25 % 256 = w3 / 256 % 256 from by (have e : (256 : Int) ^ 25 = 1606938044258990275541962092341162602522202993782792835301376 := rfl); rw [e]; omega]
  rw [show V / 256 ^ 26 % 256 = w3 / 65536 % 256 from by (have e : (256 : Int) ^ 26 = 411376139330301510538742295639337626245683966408394965837152256 := rfl); rw [e]; omega]
  rw [show V / 256 ^ 27 % 256 = w3 / 16777216 % 256 from by (have e : (256 : Int) ^ 27 = 105312291668557186697918027683670432318895095400549111254310977536 := rfl); rw [e]; omega]
  rw [show V / 256 ^ 28 % 256 = w3 / 4294967296 % 256 from by (have e : (256 : Int) ^ 28 = 26959946667150639794667015087019630673637144422540572481103610249216 := rfl); rw [e]; omega]
  rw [show V / 256 ^ 29 % 256 = w3 / 1099511627776 % 256 from by (have e : (256 : Int) ^ 29 = 6901746346790563787434755862277025452451108972170386555162524223799296 := rfl); rw [e]; omega]
  rw [show V / 256 ^ 30 % 256 = w3 / 281474976710656 % 256 from by (have e : (256 : Int) ^ 30 = 1766847064778384329583297500742918515827483896875618958121606201292619776 := rfl); rw [e]; omega]
  rw [show V / 256 ^ 31 % 256 = w3 / 72057594037927936 from by (have e : (256 : Int) ^ 31 = 452312848583266388373324160190187140051835877600158453279131187530910662656 := rfl); rw [e]; omega]
theorem carry_twice {f0 f1 f2 f3 f4 c0 c1 c2 c3 c4 g0 g1 g2 g3 g4 d0 d1 d2 d3 d4 h0 : Int} (e0 : c0 = f0 / 2251799813685248) (e1 : c1 = (f1 + c0) / 2251799813685248) (e2 : c2 = (f2 + c1) / 2251799813685248) (e3 : c3 = (f3 + c2) / 2251799813685248) (e4 : c4 = (f4 + c3) / 2251799813685248)
    (k0 : g0 = f0 % 2251799813685248 + 19 * c4) (k1 : g1 = (f1 + c0) % 2251799813685248) (k2 : g2 = (f2 + c1) % 2251799813685248) (k3 : g3 = (f3 + c2) % 2251799813685248) (k4 : g4 = (f4 + c3) % 2251799813685248)
    (r0 : In f0 0 4503599627370495) (r1 : In f1 0 4503599627370495) (r2 : In f2 0 4503599627370495) (r3 : In f3 0 4503599627370495) (r4 : In f4 0 4503599627370495)
    (e0' : d0 = g0 / 2251799813685248) (e1' : d1 = (g1 + d0) / 2251799813685248) (e2' : d2 = (g2 + d1) / 2251799813685248) (e3' : d3 = (g3 + d2) / 2251799813685248) (e4' : d4 = (g4 + d3) / 2251799813685248) (k0' : h0 = g0 % 2251799813685248 + 19 * d4) : In h0 0 2251799813685247 := by
  unfold In at *
  omega
theorem limb1 {a b : Int} (ha : In a 0 18446744073709551615) (hb : In b 0 18446744073709551615) : (a / 2251799813685248 + b * 8192 % 18446744073709551616) % 2251799813685248 = a / 2251799813685248 + 8192 * (b % 274877906944) := by
  unfold In at *
  have e : b * 8192 % 18446744073709551616 = 8192 * (b % 2251799813685248) := by omega
  rw [e]; omega
theorem limb2 {a b : Int} (ha : In a 0 18446744073709551615) (hb : In b 0 18446744073709551615) : (a / 274877906944 + b * 67108864 % 18446744073709551616) % 2251799813685248 = a / 274877906944 + 67108864 * (b % 33554432) := by
  unfold In at *
  have e : b * 67108864 % 18446744073709551616 = 67108864 * (b % 274877906944) := by omega
  rw [e]; omega
theorem limb3 {a b : Int} (ha : In a 0 18446744073709551615) (hb : In b 0 18446744073709551615) : (a / 33554432 + b * 549755813888 % 18446744073709551616) % 2251799813685248 = a / 33554432 + 549755813888 * (b % 4096) := by
  unfold In at *
  have e : b * 549755813888 % 18446744073709551616 = 549755813888 * (b % 33554432) := by omega
  rw [e]; omega
theorem get_val {w0 w1 w2 w3 : Int} (h0 : In w0 0 18446744073709551615) (h1 : In w1 0 18446744073709551615) (h2 : In w2 0 18446744073709551615) (h3 : In w3 0 18446744073709551615) :
    w0 % 2251799813685248 + 19 * (w3 / 9223372036854775808) + (w0 / 2251799813685248 + w1 * 8192 % 18446744073709551616) % 2251799813685248 * 2251799813685248 + (w1 / 274877906944 + w2 * 67108864 % 18446744073709551616) % 2251799813685248 * 5070602400912917605986812821504 + (w2 / 33554432 + w3 * 549755813888 % 18446744073709551616) % 2251799813685248 * 11417981541647679048466287755595961091061972992 + w3 / 4096 % 2251799813685248 * 25711008708143844408671393477458601640355247900524685364822016 =
    w0 + w1 * 18446744073709551616 + w2 * 340282366920938463463374607431768211456 + w3 * 6277101735386680763835789423207666416102355444464034512896 - w3 / 9223372036854775808 * 57896044618658097711785492504343953926634992332820282019728792003956564819949 := by
  rw [limb1 h0 h1, limb2 h1 h2, limb3 h2 h3]
  unfold In at *
  omega
theorem put_words {x0 x1 x2 x3 x4 : Int} (h0 : In x0 0 2251799813685247) (h1 : In x1 0 2251799813685247) (h2 : In x2 0 2251799813685247) (h3 : In x3 0 2251799813685247) (h4 : In x4 0 2251799813685247) :
    x0 + x1 * 2251799813685248 + x2 * 5070602400912917605986812821504 + x3 * 11417981541647679048466287755595961091061972992 + x4 * 25711008708143844408671393477458601640355247900524685364822016 = x0 + x1 * 2251799813685248 % 18446744073709551616 + (x1 / 8192 + x2 * 274877906944 % 18446744073709551616) * 18446744073709551616 + (x2 / 67108864 + x3 * 33554432 % 18446744073709551616) * 340282366920938463463374607431768211456 + (x3 / 549755813888 + x4 * 4096) * 6277101735386680763835789423207666416102355444464034512896 := by
  unfold In at *
  have e1 : x1 * 2251799813685248 % 18446744073709551616 = 2251799813685248 * (x1 % 8192) := by omega
  have e2 : x2 * 274877906944 % 18446744073709551616 = 274877906944 * (x2 % 67108864) := by omega
  have e3 : x3 * 33554432 % 18446744073709551616 = 33554432 * (x3 % 549755813888) := by omega
  rw [e1, e2, e3]; omega
theorem fpB_dec (a b : Fp) : decide (fpB a = fpB b) = decide (a = b) := by
  by_cases h : a = b
  · subst h; simp
  · rw [decide_eq_false h, decide_eq_false (fun e => h (fpB_inj e))]
end Go.Fld
namespace Go.Eng
open Go Go.IntWalk
section
variable {P : Program} {fin : Exit → Act → World → Prop} {n : Nat} {k : List KI} {f : Fr} {w : World} {ty : TypeId}
theorem tw_again {Γ : Type} {c body : Code} (fr : Γ → Fr) (I : Γ → World → Prop) (μ : Γ → Nat) (γ₀ : Γ) (h0 : Fr.sub (fr γ₀) f) (hI : I γ₀ w) {m : Nat} (hm : μ γ₀ ≤ m)
    (hpos : ∀ γ w, I γ w → 0 < μ γ)
    (h : ∀ (m : Nat) (γ : Γ) (w : World), I γ w → μ γ ≤ m + 1 → (∀ γ' w', μ γ' ≤ m → I γ' w' → TW P fin n (.c c :: .s m body :: k) (fr γ') w') → TW P fin n (.c c :: .s (m + 1) body :: k) (fr γ) w) :
    TW P fin n (.c c :: .s m body :: k) f w := by
  refine tw_keep (fr γ₀) h0 ?_
  clear h0
  induction m generalizing γ₀ w with
  | zero => have := hpos γ₀ w hI; omega
  | succ m ih => exact h m γ₀ w hI hm (fun γ' w' hm' hI' => ih γ' hI' hm')
def atN (W : Nat → Int) (o : Nat) : Nat → Int := fun c => W (o + c)
def updR (W : Nat → Int) (o s : Nat) (g : Nat → Int) : Nat → Int := fun j => bif Nat.ble o j && Nat.blt j (o + s) then g (j - o) else W j
theorem atN_updR_same {W g : Nat → Int} {o s c : Nat} (h : c < s) : atN (updR W o s g) o c = g c := by
  unfold atN updR
  rw [show Nat.ble o (o + c) = true from Nat.ble_eq_true_of_le (by omega), show Nat.blt (o + c) (o + s) = true from Nat.ble_eq_true_of_le (by omega), show o + c - o = c by omega]; rfl
theorem atN_updR_other {W g : Nat → Int} {o o' s c : Nat} (h : o' + c < o ∨ o + s ≤ o' + c) : atN (updR W o s g) o' c = atN W o' c := by
  unfold atN updR
  rcases h with h | h
  · rw [show Nat.ble o (o' + c) = false from by rw [← Bool.not_eq_true, Nat.ble_eq]; omega]; rfl
  · rw [show Nat.blt (o' + c) (o + s) = false from by rw [← Bool.not_eq_true]; unfold Nat.blt; rw [Nat.ble_eq]; omega, Bool.and_false]; rfl
theorem iv_part (k : IntKind) (W : Nat → Int) {m o s : Nat} (h : o + s ≤ m) : ((iv k m W).drop o).take s = iv k s (atN W o) := by
  apply List.ext_getElem?
  intro j
  rw [List.getElem?_take]
  by_cases hj : j < s
  · rw [if_pos hj, List.getElem?_drop, iv_get (by omega), iv_get hj]; rfl
  · rw [if_neg hj, List.getElem?_eq_none (by rw [ivF_length]; omega)]
theorem iv_join (k : IntKind) (W g : Nat → Int) {m o s : Nat} (h : o + s ≤ m) : (iv k m W).take o ++ iv k s g ++ (iv k m W).drop (o + s) = iv k m (updR W o s g) := by
  apply List.ext_getElem?
  intro j
  have l1 : ((iv k m W).take o).length = o := by rw [List.length_take, ivF_length]; omega
  by_cases hjm : j < m
  · rw [iv_get hjm]
    by_cases h1 : j < o
    · rw [List.append_assoc, List.getElem?_append_left (by omega), List.getElem?_take, if_pos h1, iv_get hjm]
      unfold updR
      rw [show Nat.ble o j = false from by rw [← Bool.not_eq_true, Nat.ble_eq]; omega]; rfl
    · by_cases h2 : j < o + s
      · rw [List.append_assoc, List.getElem?_append_right (by omega), l1, List.getElem?_append_left (by rw [ivF_length]; omega), iv_get (by omega)]
        unfold updR
        rw [show Nat.ble o j = true from Nat.ble_eq_true_of_le (by omega), show Nat.blt j (o + s) = true from Nat.ble_eq_true_of_le (by omega)]; rfl
      · rw [List.getElem?_append_right (by rw [List.length_append, l1, ivF_length]; omega), List.length_append, l1, ivF_length, List.getElem?_drop, show o + s + (j - (o + s)) = j by omega, iv_get hjm]
        unfold updR
        rw [show Nat.blt j (o + s) = false from by rw [← Bool.not_eq_true]; unfold Nat.blt; rw [Nat.ble_eq]; omega, Bool.and_false]; rfl
  · rw [List.getElem?_eq_none (by rw [List.length_append, List.length_append, l1, ivF_length, List.length_drop, ivF_length]; omega), List.getElem?_eq_none (by rw [ivF_length]; omega)]
theorem g_ldiv {x : Operand} {t : TypeId} {zs : List Value} {s b g o m : Nat} {T : TypeId} {kd : IntKind} {W : Nat → Int} (ht : agB P t = true) (hs : Ty P t zs s b) (hx : f.ev x = some (.pointer (some ⟨g, o, none⟩)))
    (hb : Bk w g T (iv kd m W)) (h : o + s ≤ m) : Gives P n f w (.load t x) ty (.agg (iv kd s (atN W o)).toArray) w :=
  g_ldab ht hs hx hb (iv_part kd W h) (ivF_length _ _ _ _)
theorem d_stiv {t : TypeId} {x y : Operand} {b o m : Nat} {T : TypeId} {zs : List Value} {s by_ : Nat} {kd : IntKind} {W g : Nat → Int} (ht : Ty P t zs s by_) (hx : f.ev x = some (.pointer (some ⟨b, o, none⟩))) (hy : f.ev y = some (.agg (iv kd s g).toArray))
    (hb : Bk w b T (iv kd m W)) (h : o + s ≤ m) :
    Does P n f w (.store t x y) ty (fun _ w' => Bk w' b T (iv kd m (updR W o s g)) ∧ Keep [b] w w' ∧ w'.heap.size = w.heap.size) :=
  (d_sta ht hx hy (ivF_length _ _ _ _) ivF_one hb (Nat.ble_eq_true_of_le (by rw [ivF_length]; exact h))).mono fun _ w' ⟨h1, h2, h3⟩ => ⟨by rwa [iv_join kd W g h] at h1, h2, h3⟩
theorem grdT {ops : Array Oper} {j d : Nat} {oj : Oper} {b want : Bool} (hj : ops[j]? = some oj) (hd : oj.dst = some d) (hf : f.get d = some (.bool b)) (hb : b = want) : Grd n ops f j want true := grd1 hj hd hf (by subst hb; cases b <;> rfl)
section
variable {l : List Oper} {p s0 i : Nat} {T cs r : List Nat} {Fin : Fr → World → Prop}
theorem pa_gt (f1 : Fr) {op : Op} {d : Nat} {pos : String} {aft : Array Edge} {j : Nat} {want : Bool} {v : Value} (ho : l[i]? = some ⟨some d, op, ty, pos, aft, some (j, want)⟩) (hc : cs.contains i = false) (hs : Fr.sub f1 f) (hk : slotsOk l p i f1 = true)
    (hG : Grd n l.toArray f1 j want true) (hr : ∀ w', Keep T w w' → Gives P n f1 w' op ty v w') (h : PA P n l p T s0 (fun i => cs.contains i) Fin r ((d, v) :: f) w) : PA P n l p T s0 (fun i => cs.contains i) Fin (i :: r) f w := by
  unfold PA
  refine ⟨_, f1, ho, hs, hk, .inr ⟨hc, v, fun w' hw a ha K Q hK => ?_, by rw [frPut_at ho]; exact h⟩⟩
  have hwt : Region.wanted ⟨some d, op, ty, pos, aft, some (j, want)⟩ (yielded l.toArray a.tmps) = true := hG a ha
  rw [hwt]
  refine ⟨fun _ => ?_, fun hcf => by cases hcf⟩
  unfold Oper.wp
  rw [hr w' hw a ha]
  exact hK _ _ ⟨rfl, rfl⟩
theorem pa_dt (f1 : Fr) {op : Op} {d : Nat} {pos : String} {aft : Array Edge} {j : Nat} {want : Bool} (ho : l[i]? = some ⟨some d, op, ty, pos, aft, some (j, want)⟩) (hc : cs.contains i = true) (hs : Fr.sub f1 f) (hk : slotsOk l p i f1 = true)
    (hG : Grd n l.toArray f1 j want true)
    (hr : ∀ w1, Keep [] w w1 → Does P n f1 w1 op ty (fun v w' => Keep T w1 w' ∧ (∀ x, x ∈ cblk v → (x < s0 ∨ w1.heap.size ≤ x) ∧ x < w'.heap.size) ∧ PA P n l p T s0 (fun i => cs.contains i) Fin r ((d, v) :: f) w')) : PA P n l p T s0 (fun i => cs.contains i) Fin (i :: r) f w := by
  unfold PA
  refine ⟨_, f1, ho, hs, hk, .inl ⟨hc, fun w1 k1 a ha K Q hK => ?_⟩⟩
  have hwt : Region.wanted ⟨some d, op, ty, pos, aft, some (j, want)⟩ (yielded l.toArray a.tmps) = true := hG a ha
  rw [hwt]
  refine ⟨fun _ => ?_, fun hcf => by cases hcf⟩
  exact hr w1 k1 a ha _ _ _ _ _ _ (fun v w' hv => hK _ _ ⟨hv.1, hv.2.1, by rw [frPut_at ho]; exact hv.2.2⟩)
end
theorem g_pickT {x y z : Operand} {b : Bool} {v : Value} (hx : f.ev x = some (.bool b)) (hb : b = true) (hy : f.ev y = some v) : Gives P n f w (.pick x y z) ty v w := by
  subst hb
  intro a ha dst pos aft g
  simp [execOp, ha.ev hx, ha.ev hy, asBool]
theorem Rd.cblk {w : World} {s m : Nat} {v : Value} {cs : List Value} (h : Rd w s v m cs) : Eng.cblk v = vblk v := by
  obtain ⟨A, c, rfl, _⟩ := h
  cases A <;> rfl
theorem g_ixaE {x y : Operand} {t e : TypeId} {m : Nat} {zs : List Value} {s b : Nat} {blk o : Nat} (o' : Nat) {kd : IntKind} {i : Int} (ht : P.underlying t = some (.array m e)) (he : Ty P e zs s b)
    (hx : f.ev x = some (.pointer (some ⟨blk, o, none⟩))) (hy : f.ev y = some (.int kd i)) (h : 0 ≤ i ∧ i < m) (ho : o + i.toNat * s = o') :
    Gives P n f w (.indexAddr t x y) ty (.pointer (some ⟨blk, o', none⟩)) w := by subst ho; exact g_ixa ht he hx hy h
theorem g_faE {x : Operand} {T : TypeId} {fs : Array Field} {i : Nat} {fd : Field} {b o : Nat} (o' : Nat) {zs : List Value} {s by_ : Nat} (hT : P.underlying T = some (.struct fs)) (hf : fs[i]? = some fd) (hs : Ty P fd.type zs s by_) (h0 : s ≠ 0)
    (hx : f.ev x = some (.pointer (some ⟨b, o, none⟩))) (ho : o + fd.offset = o') : Gives P n f w (.fieldAddr T x i) ty (.pointer (some ⟨b, o', none⟩)) w := by subst ho; exact g_fa hT hf hs h0 hx
theorem d_stix {t : TypeId} {x y : Operand} {b o m : Nat} {T : TypeId} {zs : List Value} {by_ : Nat} {kd : IntKind} {W : Nat → Int} {v : Int} (ht : Ty P t zs 1 by_) (hx : f.ev x = some (.pointer (some ⟨b, o, none⟩))) (hy : f.ev y = some (.int kd v))
    (hb : Bk w b T (iv kd m W)) (h : o < m) :
    Does P n f w (.store t x y) ty (fun _ w' => Bk w' b T (iv kd m (upd W o v)) ∧ Keep [b] w w' ∧ w'.heap.size = w.heap.size) :=
  (d_st ht hx hy rfl hb (by rw [ivF_length]; exact Nat.ble_eq_true_of_le h)).mono fun _ w' ⟨h1, h2, h3⟩ => ⟨by rwa [iv_set] at h1, h2, h3⟩
theorem g_slv {x : Operand} {t e : TypeId} {lo hi : Option Operand} {zs : List Value} {s b m c : Nat} {A : Option Addr} {l h : Int} (ht : P.underlying t = some (.slice e)) (he : Ty P e zs s b)
    (hx : f.ev x = some (.slice A m c)) (h2 : c ≤ maxLen) (h1 : m ≤ c)
    (hlo : (lo = none ∧ l = 0) ∨ ∃ o k, lo = some o ∧ f.ev o = some (.int k l)) (hhi : (hi = none ∧ h = m) ∨ ∃ o k, hi = some o ∧ f.ev o = some (.int k h)) (hb : 0 ≤ l ∧ l ≤ h ∧ h ≤ c) :
    Gives P n f w (.slice t x lo hi none) ty (cut (.slice A m c) l.toNat h.toNat s) w := by
  intro a ha dst pos aft g
  have ht' : P.underlying t = some (.slice (P.elem t)) := by unfold Program.elem; rw [ht]
  have hel : P.elem t = e := by unfold Program.elem; rw [ht]
  have hbb : (Instr.sliceBounds true m c (lo.map a.eval) (hi.map a.eval) none).run P w = .ok (l.toNat, h.toNat, c) w := by
    have e2 : (h.toNat : Int) = h := Int.toNat_of_nonneg (by omega)
    rcases hlo with ⟨rfl, rfl⟩ | ⟨o, kk, rfl, ho⟩ <;> rcases hhi with ⟨rfl, rfl⟩ | ⟨o', kk', rfl, ho'⟩
    · simp [Instr.sliceBounds]
    · simp [Instr.sliceBounds, ha.ev ho', run_sliceBound w kk' h c _ (by omega) (by omega)]
    · simp [Instr.sliceBounds, ha.ev ho, run_sliceBound w kk l m _ (by omega) (by omega)]
    · simp [Instr.sliceBounds, ha.ev ho, ha.ev ho', run_sliceBound w kk' h c _ (by omega) (by omega), run_sliceBound w kk l h.toNat _ (by omega) (by omega)]
  simp only [execOp, ha.ev hx, Sem.run_bind, Option.map_none, run_sliceAt_slice w t _ _ _ _ ht', run_slice_any w t A m c ht', hbb, Result.andThen_ok, hel, he.sizeOf, sliced, Sem.run_pure, Eng.cut]
theorem d_cpAt {t u e : TypeId} {x y : Operand} {lo s l m m' by_ : Nat} {v v' : Value} {cs ys zs : List Value} (ht : P.underlying t = some (.slice e)) (he : Ty P e zs 1 by_) (hx : f.ev x = some (cut v l m 1)) (ho : Own w lo e 1 v m cs) (hl : l < m)
    (hy : f.ev y = some v') (hr : Rd w 1 v' m' ys) (h1 : ∀ c ∈ ys, c.oneCell' = true) (hs : s = min m' (m - l)) (hs0 : 0 < s) :
    Does P n f w (.call { callee := .builtin .copy, args := #[x, y], argTypes := #[t, u] }) ty
      (fun r w' => r = .int .i64 (s : Int) ∧ Own w' lo e 1 v m (cs.take l ++ ys.take s ++ cs.drop (l + s)) ∧ Keep (vblk v) w w' ∧ w'.heap.size = w.heap.size) := by
  intro a ha dst pos aft g K Q hK
  obtain ⟨ti, z, hi, hz, hzc, hsz, hby⟩ := he.parts
  have hsz' : (P.info? e).map (·.size) = some 1 := by rw [hi]; simp [hsz]
  obtain ⟨A', c', rfl, h2, h3, h4, h5, h6⟩ := hr
  have hlc := ho.1
  rw [Nat.mul_one] at h4 hlc
  have hne : cs ≠ [] := fun h => by subst h; simp at hlc; omega
  obtain ⟨gb, cap, cur, rfl, q1, q2, q3, q4, q5, q6⟩ := ho.raw hne
  rw [Nat.mul_one] at q5 q6
  have hcut : cut (.slice (some ⟨gb, 0, none⟩) m cap) l m 1 = .slice (some ⟨gb, l, none⟩) (m - l) (cap - l) := by
    have : cap ≠ l := by omega
    simp [cut, this, Addr.add_lit]
  rw [hcut] at hx
  cases A' with
  | none => have := h5 rfl; omega
  | some a' =>
    have hlen : (ys.take s).length = Nat.min m' (m - l) := by show _ = min m' (m - l); rw [List.length_take, h4]; omega
    have hl2 : (ys.take s).length = s := by rw [hlen]; exact hs.symm
    have hrun := run_copy_row (P := P) w t u ty e gb l (m - l) (cap - l) a' m' c' cur.toArray e (ys.take s) ht hsz' q2 hlen ((h6 a' rfl).take s) (by rw [hl2, List.size_toArray]; omega) (fun c hc => h1 c (List.mem_of_mem_take hc))
    rw [hl2] at hrun
    have hr : (execOp a.eval ⟨dst, .call { callee := .builtin .copy, args := #[x, y], argTypes := #[t, u] }, ty, pos, aft, g⟩).run P w = .ok (.value (goInt s)) (w.setRow gb (cur.take l ++ ys.take s ++ cur.drop (l + s)).toArray) := by
      simp [execOp, resolve, invoke, builtin, ha.ev hx, ha.ev hy, hrun]
    unfold Oper.wp
    rw [hr]
    refine hK _ _ ⟨rfl, ⟨by rw [List.length_append, List.length_append, hl2, List.length_take, List.length_drop, hlc]; omega, .inr ⟨gb, cap, _, rfl, q1, setRow_heap w gb _ _ e _ q2, q3, q4, ?_, ?_⟩⟩, setRow_keep _ _ _, setRow_size _ _ _⟩
    · simp only [List.size_toArray, List.length_append, List.length_take, List.length_drop, h4]; omega
    · rw [← q6]
      simp only [Nat.mul_one]
      have e1 : (cur.take l).length = l := by rw [List.length_take]; omega
      rw [List.append_assoc, List.append_assoc, List.take_append, List.take_append, e1, hl2, List.take_take, List.take_take, List.take_take, List.drop_take, Nat.min_eq_right (show l ≤ m by omega), Nat.min_eq_right (show s ≤ m - l by omega), Nat.min_eq_left (show l ≤ m by omega), show m - l - s = m - (l + s) by omega]
end
end Go.Eng
namespace Go.Fld
open Go Go.Eng Go.Ed Go.Byt
def vN (f : Nat → Int) : Nat → Int
  | 0 => 0
  | n + 1 => vN f n + f n * 65536 ^ n
theorem vN_congr {f g : Nat → Int} : ∀ {n : Nat}, (∀ j, j < n → f j = g j) → vN f n = vN g n
  | 0, _ => rfl
  | n + 1, h => by rw [vN, vN, vN_congr (n := n) (fun j hj => h j (by omega)), h n (by omega)]
theorem vN_upd_ge (f : Nat → Int) {i : Nat} (v : Int) : ∀ {n : Nat}, n ≤ i → vN (upd f i v) n = vN f n
  | 0, _ => rfl
  | n + 1, h => by rw [vN, vN, vN_upd_ge f v (n := n) (by omega), upd_other f v (by omega)]
theorem vN_upd (f : Nat → Int) {i : Nat} (v : Int) : ∀ {n : Nat}, i < n → vN (upd f i v) n = vN f n + (v - f i) * 65536 ^ i
  | 0, h => by omega
  | n + 1, h => by
    rw [vN, vN]
    by_cases hi : i = n
    · subst hi
      rw [vN_upd_ge f v (Nat.le_refl _), upd_same, Int.sub_mul]; omega
    · rw [vN_upd f v (n := n) (by omega), upd_other f v (by omega)]; omega
theorem pow_pos16 (n : Nat) : (0 : Int) < 65536 ^ n := Int.pow_pos (by decide)
theorem vN_bd {f : Nat → Int} {a b : Int} : ∀ {n : Nat}, (∀ j, j < n → In (f j) a b) → a * (65536 ^ n - 1) ≤ 65535 * vN f n ∧ 65535 * vN f n ≤ b * (65536 ^ n - 1)
  | 0, _ => by simp [vN]
  | n + 1, h => by
    have ih := vN_bd (n := n) (fun j hj => h j (by omega))
    have hn := h n (by omega)
    have hp := pow_pos16 n
    rw [vN, Int.pow_succ]
    have h1 : a * 65536 ^ n ≤ f n * 65536 ^ n := Int.mul_le_mul_of_nonneg_right hn.1 (by omega)
    have h2 : f n * 65536 ^ n ≤ b * 65536 ^ n := Int.mul_le_mul_of_nonneg_right hn.2 (by omega)
    have e1 : a * (65536 ^ n - 1) = a * 65536 ^ n - a := by rw [Int.mul_sub, Int.mul_one]
    have e2 : b * (65536 ^ n - 1) = b * 65536 ^ n - b := by rw [Int.mul_sub, Int.mul_one]
    have e3 : a * (65536 ^ n * 65536 - 1) = 65536 * (a * 65536 ^ n) - a := by rw [Int.mul_sub, Int.mul_one, ← Int.mul_assoc, Int.mul_comm _ 65536]
    have e4 : b * (65536 ^ n * 65536 - 1) = 65536 * (b * 65536 ^ n) - b := by rw [Int.mul_sub, Int.mul_one, ← Int.mul_assoc, Int.mul_comm _ 65536]
    rw [e3, e4]; rw [e1, e2] at ih
    generalize a * 65536 ^ n = q1 at *
    generalize b * 65536 ^ n = q2 at *
    generalize f n * 65536 ^ n = q3 at *
    omega
theorem p256 : (65536 : Int) ^ 16 = 115792089237316195423570985008687907853269984665640564039457584007913129639936 := by decide +kernel
def Car (f g : Nat → Int) : Prop := ∃ c l, In l 0 65535 ∧ g 0 = l + 38 * c ∧ (∀ i, 1 ≤ i → i < 16 → In (g i) 0 65535) ∧ vN f 16 = vN g 16 - 38 * c + c * 115792089237316195423570985008687907853269984665640564039457584007913129639936
def Sml (f : Nat → Int) : Prop := ∀ j, j < 16 → In (f j) (-72057594037927936) 72057594037927936
def CarI (f g : Nat → Int) (i : Nat) : Prop := (i < 16 ∧ (∀ j, j < i → In (g j) 0 65535) ∧ In (g i) (-144115188075855872) 144115188075855872 ∧ (∀ j, i < j → j < 16 → g j = f j) ∧ vN g 16 = vN f 16) ∨ (i = 16 ∧ Car f g)
theorem carI_start {f : Nat → Int} (h : Sml f) : CarI f f 0 := .inl ⟨by decide, fun j hj => by omega, (h 0 (by decide)).wk rfl, fun j _ _ => rfl, rfl⟩
theorem carI_at {f g : Nat → Int} {i : Nat} (h : CarI f g i) (hi : i < 16) : In (g i) (-144115188075855872) 144115188075855872 := by
  rcases h with h | h
  · exact h.2.2.1
  · omega
theorem carI_next {f g : Nat → Int} {i : Nat} (hb : Sml f) (h : CarI f g i) (hi : i < 15) : In (g (i + 1)) (-72057594037927936) 72057594037927936 := by
  rcases h with h | h
  · rw [h.2.2.2.1 (i + 1) (by omega) (by omega)]; exact hb (i + 1) (by omega)
  · omega
theorem carI_zero {f g : Nat → Int} {i : Nat} (h : CarI f g i) (hi : i < 16) (h0 : 0 < i) : In (g 0) 0 65535 := by
  rcases h with h | h
  · exact h.2.1 0 h0
  · omega
theorem carI_step {f g : Nat → Int} {i : Nat} {c z y m : Int} (hb : Sml f) (h : CarI f g i) (hi : i < 15) (hc : Eqn c (g i / 65536)) (hm : Eqn m (c * 65536)) (hz : Eqn z (g i - m)) (hy : Eqn y (g (i + 1) + c)) : CarI f (upd (upd g i z) (i + 1) y) (i + 1) := by
  unfold Eqn at *
  subst hm
  have hn := carI_next hb h hi
  rcases h with ⟨_, h1, h2, h3, h4⟩ | h
  · unfold In at h2 hn
    refine .inl ⟨by omega, fun j hj => ?_, ?_, fun j h5 h6 => ?_, ?_⟩
    · rw [upd_other _ _ (by omega)]
      by_cases hji : j = i
      · subst hji; rw [upd_same]; unfold In; omega
      · rw [upd_other _ _ hji]; exact h1 j (by omega)
    · rw [upd_same]; unfold In; omega
    · rw [upd_other _ _ (by omega), upd_other _ _ (by omega)]; exact h3 j (by omega) h6
    · rw [vN_upd _ _ (by omega), vN_upd _ _ (by omega), upd_other _ _ (by omega), ← h4, hz, hy, Int.pow_succ]
      have e1 : (g i - c * 65536 - g i) * 65536 ^ i = -(c * (65536 ^ i * 65536)) := by rw [show g i - c * 65536 - g i = -(c * 65536) by omega, Int.neg_mul, Int.mul_assoc, Int.mul_comm 65536]
      have e2 : (g (i + 1) + c - g (i + 1)) * (65536 ^ i * 65536) = c * (65536 ^ i * 65536) := by congr 1; omega
      rw [e1, e2]; omega
  · omega
theorem carI_last {f g : Nat → Int} {i : Nat} {c z y m q : Int} (h : CarI f g i) (hi : i < 16) (hi2 : ¬ (i : Int) < 15) (hc : Eqn c (g i / 65536)) (hm : Eqn m (c * 65536)) (hz : Eqn z (g i - m)) (hq : Eqn q (38 * c)) (hy : Eqn y (g 0 + q)) : CarI f (upd (upd g i z) 0 y) (i + 1) := by
  unfold Eqn at *
  obtain rfl : i = 15 := by omega
  subst hm hq
  rcases h with ⟨_, h1, h2, h3, h4⟩ | h
  · have h0 := h1 0 (by decide)
    unfold In at h2
    refine .inr ⟨rfl, c, g 0, h0, by rw [upd_same, hy], fun j h5 h6 => ?_, ?_⟩
    · rw [upd_other _ _ (by omega)]
      by_cases hji : j = 15
      · subst hji; rw [upd_same]; unfold In; omega
      · rw [upd_other _ _ hji]; exact h1 j (by omega)
    · rw [vN_upd _ _ (by decide), vN_upd _ _ (by decide), upd_other _ _ (by decide), ← h4, hz, hy, ← p256]
      rw [show (65536 : Int) ^ 16 = 65536 * 65536 ^ 15 by decide +kernel]
      generalize (65536 : Int) ^ 15 = P
      have e1 : (g 15 - c * 65536 - g 15) * P = -(c * (65536 * P)) := by rw [show g 15 - c * 65536 - g 15 = -(c * 65536) by omega, Int.neg_mul, Int.mul_assoc]
      rw [e1, Int.pow_zero]; omega
  · omega
theorem carI_end {f g : Nat → Int} {i : Nat} (h : CarI f g i) (h0 : ¬ (i : Int) < 16) : Car f g := by
  rcases h with h | h
  · omega
  · exact h.2
def RN (f : Nat → Int) (a : Fp) : Prop := In (f 0) (-4096) 69631 ∧ (∀ i, 1 ≤ i → i < 16 → In (f i) 0 65535) ∧ fp (vN f 16) = a
theorem car_val {f g : Nat → Int} (h : Car f g) : fp (vN g 16) = fp (vN f 16) := by
  obtain ⟨c, l, h1, h2, h3, h4⟩ := h
  exact fp_eq (-2 * c) (by omega)
theorem vN_low {g : Nat → Int} : ∀ {n : Nat}, 0 < n → ∃ r, vN g n = g 0 + 65536 * r ∧ ((∀ i, 1 ≤ i → i < n → In (g i) 0 65535) → 0 ≤ r ∧ 65536 * r ≤ 65536 ^ n - 65536)
  | 0, h => by omega
  | 1, _ => ⟨0, by simp [vN], fun _ => by simp⟩
  | n + 2, _ => by
    obtain ⟨r, h1, h2⟩ := vN_low (g := g) (n := n + 1) (by omega)
    refine ⟨r + g (n + 1) * 65536 ^ n, ?_, fun h => ?_⟩
    · rw [vN, h1, Int.pow_succ]
      have e : g (n + 1) * (65536 ^ n * 65536) = 65536 * (g (n + 1) * 65536 ^ n) := by rw [← Int.mul_assoc, Int.mul_comm]
      rw [e]; omega
    · obtain ⟨h3, h4⟩ := h2 (fun i hi h5 => h i hi (by omega))
      have h5 := h (n + 1) (by omega) (by omega)
      have hp := pow_pos16 n
      rw [Int.pow_succ] at h4 ⊢
      have q1 : 0 ≤ g (n + 1) * 65536 ^ n := Int.mul_nonneg h5.1 (by omega)
      have q2 : g (n + 1) * 65536 ^ n ≤ 65535 * 65536 ^ n := Int.mul_le_mul_of_nonneg_right h5.2 (by omega)
      rw [Int.pow_succ]
      generalize g (n + 1) * 65536 ^ n = q at *
      generalize (65536 : Int) ^ n = P at *
      omega
theorem car_c {f g : Nat → Int} {a b : Int} (h : Car f g) (ha : a * 115792089237316195423570985008687907853269984665640564039457584007913129639936 - 65536 * 65536 ≤ vN f 16) (hb : vN f 16 ≤ b * 115792089237316195423570985008687907853269984665640564039457584007913129639936 + 65536 * 65536) : ∃ c l, In c (a - 1) b ∧ In l 0 65535 ∧ g 0 = l + 38 * c := by
  obtain ⟨c, l, h1, h2, h3, h4⟩ := h
  obtain ⟨r, h5, h6⟩ := vN_low (g := g) (n := 16) (by decide)
  have h6 := h6 h3
  rw [p256] at h6
  unfold In at *
  exact ⟨c, l, by omega, h1, h2⟩
theorem rn_of_car {f g : Nat → Int} {a b : Int} (h : Car f g) (ha : a * 115792089237316195423570985008687907853269984665640564039457584007913129639936 - 65536 * 65536 ≤ vN f 16) (hb : vN f 16 ≤ b * 115792089237316195423570985008687907853269984665640564039457584007913129639936 + 65536 * 65536) (ha0 : decide (-100 ≤ a) = true) (hb0 : decide (b ≤ 100) = true) : RN g (fp (vN f 16)) := by
  obtain ⟨c, l, h1, h2, h3⟩ := car_c h ha hb
  have ha0 := of_decide_eq_true ha0
  have hb0 := of_decide_eq_true hb0
  refine ⟨by unfold In at *; omega, ?_, car_val h⟩
  obtain ⟨_, _, _, _, h5, _⟩ := h
  exact h5
theorem rn_sml {f : Nat → Int} {a : Fp} (h : RN f a) : ∀ j, j < 16 → In (f j) (-4096) 69631 := by
  intro j hj
  by_cases h0 : j = 0
  · subst h0; exact h.1
  · exact (h.2.1 j (by omega) hj).wk rfl
theorem rn_vN {f : Nat → Int} {a : Fp} (h : RN f a) : -4096 ≤ vN f 16 ∧ vN f 16 ≤ 115792089237316195423570985008687907853269984665640564039457584007913129639936 + 4096 := by
  obtain ⟨r, h5, h6⟩ := vN_low (g := f) (n := 16) (by decide)
  have h6 := h6 h.2.1
  rw [p256] at h6
  have := h.1
  unfold In at this
  omega
theorem vN_add {f g h : Nat → Int} : ∀ {n : Nat}, (∀ j, j < n → h j = f j + g j) → vN h n = vN f n + vN g n
  | 0, _ => rfl
  | n + 1, e => by rw [vN, vN, vN, vN_add (n := n) (fun j hj => e j (by omega)), e n (by omega), Int.add_mul]; omega
theorem vN_sub {f g h : Nat → Int} : ∀ {n : Nat}, (∀ j, j < n → h j = f j - g j) → vN h n = vN f n - vN g n
  | 0, _ => rfl
  | n + 1, e => by rw [vN, vN, vN, vN_sub (n := n) (fun j hj => e j (by omega)), e n (by omega), Int.sub_mul]; omega
def Part (q : Nat → Int) (f g : Nat → Int) (i : Nat) : Prop := (∀ j, j < i → g j = q j) ∧ ∀ j, i ≤ j → g j = f j
theorem part_start (q f : Nat → Int) : Part q f f 0 := ⟨fun j hj => by omega, fun j _ => rfl⟩
theorem part_step {q f g : Nat → Int} {i : Nat} {v : Int} (h : Part q f g i) (hv : v = q i) : Part q f (upd g i v) (i + 1) := by
  refine ⟨fun j hj => ?_, fun j hj => ?_⟩
  · by_cases hji : j = i
    · subst hji; rw [upd_same, hv]
    · rw [upd_other _ _ hji]; exact h.1 j (by omega)
  · rw [upd_other _ _ (by omega)]; exact h.2 j (by omega)
theorem add_sml {f g h : Nat → Int} {a b : Fp} (hf : RN f a) (hg : RN g b) (e : ∀ j, j < 16 → h j = f j + g j) : Sml h := by
  intro j hj
  rw [e j hj]
  exact (in_add (rn_sml hf j hj) (rn_sml hg j hj)).wk rfl
theorem sub_sml {f g h : Nat → Int} {a b : Fp} (hf : RN f a) (hg : RN g b) (e : ∀ j, j < 16 → h j = f j - g j) : Sml h := by
  intro j hj
  rw [e j hj]
  exact (in_sub (rn_sml hf j hj) (rn_sml hg j hj)).wk rfl
theorem rn_add {f g h r : Nat → Int} {a b : Fp} (hf : RN f a) (hg : RN g b) (e : ∀ j, j < 16 → h j = f j + g j) (hc : Car h r) : RN r (a + b) := by
  have h1 := rn_vN hf
  have h2 := rn_vN hg
  have h3 := vN_add (n := 16) e
  have := rn_of_car (a := 0) (b := 2) hc (by omega) (by omega) rfl rfl
  rw [h3, fp_add, hf.2.2, hg.2.2] at this
  exact this
theorem rn_sub {f g h r : Nat → Int} {a b : Fp} (hf : RN f a) (hg : RN g b) (e : ∀ j, j < 16 → h j = f j - g j) (hc : Car h r) : RN r (a - b) := by
  have h1 := rn_vN hf
  have h2 := rn_vN hg
  have h3 := vN_sub (n := 16) e
  have := rn_of_car (a := -1) (b := 1) hc (by omega) (by omega) rfl rfl
  rw [h3, fp_sub, hf.2.2, hg.2.2] at this
  exact this
def MulI (f g t : Nat → Int) (i k : Nat) : Prop := (∀ j, j < 31 → In (t j) (-(((16 * i + k : Nat) : Int) * 68719476736)) (((16 * i + k : Nat) : Int) * 68719476736)) ∧ vN t 31 = vN f i * vN g 16 + f i * 65536 ^ i * vN g k
theorem vN_zero (n : Nat) : vN (fun _ => 0) n = 0 := by
  induction n with
  | zero => rfl
  | succ n ih => rw [vN, ih]; simp
theorem mulI_start (f g : Nat → Int) : MulI f g (fun _ => 0) 0 0 := ⟨fun j _ => by simp [In], by rw [vN_zero]; simp [vN]⟩
theorem mulI_row {f g t : Nat → Int} {i : Nat} (h : MulI f g t i 16) : MulI f g t (i + 1) 0 := by
  refine ⟨fun j hj => ?_, ?_⟩
  · have := h.1 j hj
    rwa [show 16 * (i + 1) + 0 = 16 * i + 16 by omega]
  · rw [h.2]; simp only [vN]; rw [Int.add_mul, Int.mul_zero, Int.add_zero]
theorem mulI_row' {f g t : Nat → Int} {i k : Nat} (h : MulI f g t i k) (hk : k = 16) : MulI f g t (i + 1) 0 := by subst hk; exact mulI_row h
theorem mulI_end {f g t : Nat → Int} {i : Nat} (h : MulI f g t i 0) (hi : i = 16) : MulI f g t 16 0 := by subst hi; exact h
theorem mulI_in {f g t : Nat → Int} {i k j : Nat} (h : MulI f g t i k) (hi : i ≤ 16) (hk : k ≤ 16) (hj : j < 31) : In (t j) (-18691697672192) 18691697672192 := by
  have h1 := h.1 j hj
  have : ((16 * i + k : Nat) : Int) ≤ 272 := by omega
  unfold In at *
  omega
theorem mulI_step {f g t : Nat → Int} {i k : Nat} {a b : Fp} {p v : Int} (hf : RN f a) (hg : RN g b) (h : MulI f g t i k) (hi : i < 16) (hk : k < 16) (hp : Eqn p (f i * g k)) (hv : Eqn v (t (i + k) + p)) : MulI f g (upd t (i + k) v) i (k + 1) := by
  have f1 := rn_sml hf i hi
  have g1 := rn_sml hg k hk
  have hpb : -68719476736 ≤ f i * g k ∧ f i * g k ≤ 68719476736 := by
    unfold In at f1 g1
    have h1 : (f i * g k).natAbs ≤ 69631 * 69631 := by
      rw [Int.natAbs_mul]
      exact Nat.mul_le_mul (by omega) (by omega)
    omega
  unfold Eqn at *
  subst hp hv
  refine ⟨fun j hj => ?_, ?_⟩
  · by_cases hji : j = i + k
    · subst hji
      rw [upd_same]
      have := h.1 (i + k) hj
      unfold In at *
      generalize f i * g k = q at *
      omega
    · rw [upd_other _ _ hji]
      have := h.1 j hj
      unfold In at *
      omega
  · have e : vN g (k + 1) = vN g k + g k * 65536 ^ k := rfl
    rw [vN_upd _ _ (by omega), h.2, e, show t (i + k) + f i * g k - t (i + k) = f i * g k by omega, Int.pow_add, Int.mul_add]
    generalize (65536 : Int) ^ i = P
    generalize (65536 : Int) ^ k = Q
    grind -lia -linarith
def fold38 (t : Nat → Int) (j : Nat) : Int := bif Nat.blt j 15 then t j + 38 * t (j + 16) else t j
theorem vN_split (t : Nat → Int) (n : Nat) : ∀ m, vN t (n + m) = vN t n + 65536 ^ n * vN (fun j => t (n + j)) m
  | 0 => by simp [vN]
  | m + 1 => by
    rw [← Nat.add_assoc, vN, vN_split t n m, vN, Int.pow_add, Int.mul_add]
    generalize (65536 : Int) ^ n = P
    generalize (65536 : Int) ^ m = Q
    grind -lia -linarith
theorem fold38_val {t h : Nat → Int} (e : ∀ j, j < 16 → h j = fold38 t j) : fp (vN h 16) = fp (vN t 31) := by
  have h1 : vN h 15 = vN t 15 + 38 * vN (fun j => t (16 + j)) 15 := by
    have : ∀ n, n ≤ 15 → vN h n = vN t n + 38 * vN (fun j => t (16 + j)) n := by
      intro n
      induction n with
      | zero => intro _; rfl
      | succ n ih =>
        intro hn
        rw [vN, vN, vN, ih (by omega), e n (by omega)]
        unfold fold38
        rw [show Nat.blt n 15 = true from Nat.ble_eq_true_of_le (by omega), cond_true, Nat.add_comm n 16]
        generalize (65536 : Int) ^ n = Q
        grind -lia -linarith
    exact this 15 (by decide)
  have h2 : vN h 16 = vN t 16 + 38 * vN (fun j => t (16 + j)) 15 := by
    rw [vN, h1, e 15 (by decide)]
    show _ = vN t 15 + t 15 * 65536 ^ 15 + _
    have : fold38 t 15 = t 15 := rfl
    rw [this]; omega
  have h3 := vN_split t 16 15
  rw [p256] at h3
  exact fp_eq (-2 * vN (fun j => t (16 + j)) 15) (by rw [h2, show 31 = 16 + 15 from rfl, h3]; omega)
theorem fold38_in {f g t h : Nat → Int} (hm : MulI f g t 16 0) (e : ∀ j, j < 16 → h j = fold38 t j) : ∀ j, j < 16 → In (h j) (-728976209215488) 728976209215488 := by
  intro j hj
  rw [e j hj]
  have h1 := mulI_in hm (by decide) (by decide) (j := j) (by omega)
  unfold fold38
  by_cases hjj : j < 15
  · rw [show Nat.blt j 15 = true from Nat.ble_eq_true_of_le (by omega), cond_true]
    have h2 := mulI_in hm (by decide) (by decide) (j := j + 16) (by omega)
    unfold In at *
    omega
  · rw [show Nat.blt j 15 = false from by rw [← Bool.not_eq_true]; unfold Nat.blt; rw [Nat.ble_eq]; omega, cond_false]
    exact h1.wk rfl
theorem car_sml {f g : Nat → Int} (hf : ∀ j, j < 16 → In (f j) (-728976209215488) 728976209215488) (h : Car f g) : In (g 0) (-1000000000000) 1000000000000 ∧ Sml g := by
  have hb := vN_bd hf
  rw [p256] at hb
  have h' := h
  obtain ⟨c, l, h1, h2, h3, h4⟩ := h'
  obtain ⟨r, h5, h6⟩ := vN_low (g := g) (n := 16) (by decide)
  have h6 := h6 h3
  rw [p256] at h6
  have h0 : In (g 0) (-1000000000000) 1000000000000 := by unfold In at *; omega
  refine ⟨h0, fun j hj => ?_⟩
  by_cases hj0 : j = 0
  · subst hj0; exact h0.wk rfl
  · exact (h3 j (by omega) hj).wk rfl
theorem rn_mul {f g t h r s : Nat → Int} {a b : Fp} (hf : RN f a) (hg : RN g b) (hm : MulI f g t 16 0) (e : ∀ j, j < 16 → h j = fold38 t j) (h1 : Car h r) (h2 : Car r s) : RN s (a * b) := by
  obtain ⟨q1, _⟩ := car_sml (fold38_in hm e) h1
  have h1' := h1
  obtain ⟨c, l, _, _, h3, _⟩ := h1'
  obtain ⟨k, h5, h6⟩ := vN_low (g := r) (n := 16) (by decide)
  have h6 := h6 h3
  rw [p256] at h6
  have hc : ∃ c l, In c (-1) 1 ∧ In l 0 65535 ∧ s 0 = l + 38 * c := by
    obtain ⟨c, l, w1, w2, w3, w4⟩ := h2
    obtain ⟨k2, w5, w6⟩ := vN_low (g := s) (n := 16) (by decide)
    have w6 := w6 w3
    rw [p256] at w6
    unfold In at *
    exact ⟨c, l, by omega, w1, w2⟩
  obtain ⟨c2, l2, w1, w2, w3⟩ := hc
  refine ⟨by unfold In at *; omega, ?_, ?_⟩
  · obtain ⟨_, _, _, _, w5, _⟩ := h2; exact w5
  · have hv : vN t 31 = vN f 16 * vN g 16 := by rw [hm.2]; simp [vN]
    rw [car_val h2, car_val h1, fold38_val e, hv, fp_mul, hf.2.2, hg.2.2]
def pairs (xs : List UInt8) (j : Nat) : Int := gb xs (2 * (j : Int)) + gb xs (2 * (j : Int) + 1) * 256
theorem pairs_in (xs : List UInt8) (j : Nat) : In (pairs xs j) 0 65535 := by
  have h1 := gb_range xs (2 * (j : Int))
  have h2 := gb_range xs (2 * (j : Int) + 1)
  unfold pairs In; omega
theorem pairs_val {xs : List UInt8} {m : Nat} (hx : xs.length = 2 * m) : ∀ n, n ≤ m → leI xs = vN (pairs xs) n + 65536 ^ n * leI (xs.drop (2 * n))
  | 0, _ => by simp [vN]
  | n + 1, h => by
    have ih := pairs_val hx n (by omega)
    have d1 := leI_drop xs (2 * n) (by omega)
    have d2 := leI_drop xs (2 * n + 1) (by omega)
    rw [ih, vN, d1, d2, Int.pow_succ, show 2 * (n + 1) = 2 * n + 1 + 1 by omega]
    have e : pairs xs n = gb xs ((2 * n : Nat) : Int) + gb xs ((2 * n + 1 : Nat) : Int) * 256 := by unfold pairs; congr 1
    rw [e]
    generalize (65536 : Int) ^ n = Q
    generalize leI (xs.drop (2 * n + 1 + 1)) = r
    generalize gb xs ((2 * n : Nat) : Int) = u
    generalize gb xs ((2 * n + 1 : Nat) : Int) = v
    generalize vN (pairs xs) n = s
    grind -lia -linarith
theorem rn_from {xs : List UInt8} {h : Nat → Int} (hx : xs.length = 32) (e : ∀ j, j < 16 → h j = pairs xs j) : RN h (fp (leI xs)) := by
  refine ⟨by rw [e 0 (by decide)]; exact (pairs_in xs 0).wk rfl, fun i _ hi => by rw [e i hi]; exact pairs_in xs i, ?_⟩
  have := pairs_val (m := 16) hx 16 (by decide)
  rw [List.drop_eq_nil_of_le (by omega), leI, Int.mul_zero, Int.add_zero] at this
  rw [vN_congr (n := 16) e, this]
theorem and65535 {x a b : Int} (h : In x a b) (h0 : decide (0 ≤ a) = true) (h1 : decide (b < 9223372036854775808) = true) : bits .and .i64 x 65535 = x % 65536 := by
  have h0 := of_decide_eq_true h0
  have h1 := of_decide_eq_true h1
  unfold In at h
  exact and_mask 16 (by decide) (by omega) (by omega)
theorem in_mulS {x y M N : Int} (hx : In x (-M) M) (hy : In y (-N) N) : In (x * y) (-(M * N)) (M * N) := by
  unfold In at *
  have h : (x * y).natAbs ≤ M.natAbs * N.natAbs := by rw [Int.natAbs_mul]; exact Nat.mul_le_mul (by omega) (by omega)
  have e : ((M.natAbs * N.natAbs : Nat) : Int) = M * N := by rw [Int.natCast_mul, Int.natAbs_of_nonneg (by omega), Int.natAbs_of_nonneg (by omega)]
  omega
def four (a b c d : Int) : Nat → Int := upd (upd (upd (upd (fun _ => 0) 0 a) 1 b) 2 c) 3 d
theorem four_val (a b c d : Int) : vN (four a b c d) 16 = a + b * 65536 + c * 4294967296 + d * 281474976710656 := by
  unfold four
  rw [vN_upd _ _ (by decide), vN_upd _ _ (by decide), vN_upd _ _ (by decide), vN_upd _ _ (by decide), vN_zero]
  simp only [upd_other _ _ (show (3 : Nat) ≠ 2 by decide), upd_other _ _ (show (3 : Nat) ≠ 1 by decide), upd_other _ _ (show (3 : Nat) ≠ 0 by decide), upd_other _ _ (show (2 : Nat) ≠ 1 by decide), upd_other _ _ (show (2 : Nat) ≠ 0 by decide), upd_other _ _ (show (1 : Nat) ≠ 0 by decide)]
  omega
theorem four_in {a b c d : Int} (ha : In a 0 65535) (hb : In b 0 65535) (hc : In c 0 65535) (hd : In d 0 65535) (j : Nat) : In (four a b c d j) 0 65535 := by
  unfold four
  by_cases h3 : j = 3
  · subst h3; rw [upd_same]; exact hd
  · rw [upd_other _ _ h3]
    by_cases h2 : j = 2
    · subst h2; rw [upd_same]; exact hc
    · rw [upd_other _ _ h2]
      by_cases h1 : j = 1
      · subst h1; rw [upd_same]; exact hb
      · rw [upd_other _ _ h1]
        by_cases h0 : j = 0
        · subst h0; rw [upd_same]; exact ha
        · rw [upd_other _ _ h0]; decide
theorem four_sml {a b c d : Int} (ha : In a 0 65535) (hb : In b 0 65535) (hc : In c 0 65535) (hd : In d 0 65535) : Sml (four a b c d) := fun j _ => (four_in ha hb hc hd j).wk rfl
theorem rn_small {a b c d x y z : Int} {r : Nat → Int} (hx : In x 0 2147483647) (e0 : Eqn a (x % 65536)) (e1 : Eqn y (x / 65536)) (e2 : Eqn b (y % 65536)) (e3 : Eqn z (y / 65536)) (e4 : Eqn c (z % 65536)) (e5 : Eqn d (z / 65536)) (h : Car (four a b c d) r) : RN r (fp x) := by
  unfold Eqn In at *
  have hv := four_val a b c d
  have e : vN (four a b c d) 16 = x := by omega
  have := rn_of_car (a := 0) (b := 0) h (by omega) (by omega) rfl rfl
  rw [e] at this
  exact this
theorem part_twice {q f g : Nat → Int} {i : Nat} {u v : Int} (h : Part q f g i) (hv : v = q i) : Part q f (upd (upd g i u) i v) (i + 1) := by
  refine ⟨fun j hj => ?_, fun j hj => ?_⟩
  · by_cases hji : j = i
    · subst hji; rw [upd_same, hv]
    · rw [upd_other _ _ hji, upd_other _ _ hji]; exact h.1 j (by omega)
  · rw [upd_other _ _ (by omega), upd_other _ _ (by omega)]; exact h.2 j (by omega)
theorem fold38_lt (t : Nat → Int) {i : Nat} (h : i < 15) : fold38 t i = t i + 38 * t (i + 16) := by
  unfold fold38; rw [show Nat.blt i 15 = true from Nat.ble_eq_true_of_le h]; rfl
theorem fold38_ge (t : Nat → Int) {i : Nat} (h : ¬ (i : Int) < 15) : fold38 t i = t i := by
  unfold fold38; rw [show Nat.blt i 15 = false from by rw [← Bool.not_eq_true]; unfold Nat.blt; rw [Nat.ble_eq]; omega]; rfl
theorem fold_sml {f g t h : Nat → Int} (hm : MulI f g t 16 0) (e : ∀ j, j < 16 → h j = fold38 t j) : Sml h := fun j hj => (fold38_in hm e j hj).wk rfl
end Go.Fld
namespace Go.Fld
open Go Go.Eng Go.Ed Go.Byt
def Canl (f : Nat → Int) : Prop := ∀ j, j < 16 → In (f j) 0 65535
theorem can_sml {f : Nat → Int} (h : Canl f) : Sml f := fun j hj => (h j hj).wk rfl
theorem can_vN {f : Nat → Int} (h : Canl f) : 0 ≤ vN f 16 ∧ vN f 16 < 115792089237316195423570985008687907853269984665640564039457584007913129639936 := by
  obtain ⟨r, h1, h2⟩ := vN_low (g := f) (n := 16) (by decide)
  have h2 := h2 (fun i _ hi => h i hi)
  have h0 := h 0 (by decide)
  rw [p256] at h2
  unfold In at h0
  omega
theorem rn_sm {f : Nat → Int} {a : Fp} (h : RN f a) : Sml f := fun j hj => (rn_sml h j hj).wk rfl
theorem car_can {f g : Nat → Int} (h : Car f g) (h0 : -4096 ≤ vN f 16) (h1 : vN f 16 ≤ 115792089237316195423570985008687907853269984665640564039457584007913129639936 + 4096) : Canl g := by
  obtain ⟨c, l, w1, w2, w3, w4⟩ := h
  obtain ⟨r, w5, w6⟩ := vN_low (g := g) (n := 16) (by decide)
  have w6 := w6 w3
  rw [p256] at w6
  intro j hj
  by_cases hj0 : j = 0
  · subst hj0; unfold In at *; omega
  · exact w3 j (by omega) hj
theorem car3_can {f g h r : Nat → Int} {a : Fp} (hf : RN f a) (h1 : Car f g) (h2 : Car g h) (h3 : Car h r) : Canl g ∧ Canl h ∧ Canl r ∧ fp (vN r 16) = a := by
  have b := rn_vN hf
  have c1 := car_can h1 b.1 b.2
  have b1 := can_vN c1
  have c2 := car_can h2 (by omega) (by omega)
  have b2 := can_vN c2
  exact ⟨c1, c2, car_can h3 (by omega) (by omega), by rw [car_val h3, car_val h2, car_val h1, hf.2.2]⟩
def PL (j : Nat) : Int := if j = 0 then 65517 else if j = 15 then 32767 else 65535
theorem PL_val : vN PL 16 = 57896044618658097711785492504343953926634992332820282019728792003956564819949 := by decide +kernel
def SubI (n m : Nat → Int) (i : Nat) : Prop := 1 ≤ i ∧ (∀ j, j + 1 < i → In (m j) 0 65535) ∧ In (m (i - 1)) (-65536) 65535 ∧ (∀ j, i ≤ j → m j = n j) ∧ vN m 16 = vN n 16 - vN PL i
theorem sub_start {n : Nat → Int} {z x : Int} (h : Canl n) (hx : Eqn x (n 0)) (hz : Eqn z (x - 65517)) : SubI n (upd n 0 z) 1 := by
  unfold Eqn at *
  subst hx hz
  have h0 := h 0 (by decide)
  refine ⟨Nat.le_refl _, fun j hj => by omega, ?_, fun j hj => upd_other _ _ (by omega), ?_⟩
  · rw [upd_same]; unfold In at *; omega
  · rw [vN_upd _ _ (by decide), show vN PL 1 = 65517 by decide +kernel]; omega
theorem sub_val {n m q : Nat → Int} {i : Nat} (h : SubI n m i) (hi : i < 16) (hq : vN q 16 = vN m 16 - PL i * 65536 ^ i) : vN q 16 = vN n 16 - vN PL (i + 1) := by
  have e : vN PL (i + 1) = vN PL i + PL i * 65536 ^ i := rfl
  rw [hq, h.2.2.2.2, e]; omega
theorem sub_no {n m : Nat → Int} {i : Nat} {b x u v : Int} (hn : Canl n) (h : SubI n m i) (hi : i < 16) (hb : Eqn b (m (i - 1))) (h0 : ¬ b < 0) (hx : Eqn x (m i)) (hu : Eqn u (x - PL i)) (hv : Eqn v (u - 0)) : SubI n (upd m i v) (i + 1) := by
  unfold Eqn at *
  subst hb hv hu hx
  have hh := h
  obtain ⟨g1, g2, g3, g4, g5⟩ := h
  have hni := hn i hi
  have gi := g4 i (Nat.le_refl _)
  have hp : 32767 ≤ PL i ∧ PL i ≤ 65535 := by unfold PL; split <;> (try split) <;> omega
  refine ⟨by omega, fun j hj => ?_, ?_, fun j hj => ?_, ?_⟩
  · rw [upd_other _ _ (by omega)]
    by_cases hji : j + 1 = i
    · rw [show i - 1 = j by omega] at g3 h0; unfold In at *; omega
    · exact g2 j (by omega)
  · rw [show i + 1 - 1 = i by omega, upd_same, gi]; unfold In at *; omega
  · rw [upd_other _ _ (by omega)]; exact g4 j (by omega)
  · refine sub_val hh hi ?_
    rw [vN_upd _ _ hi, show m i - PL i - 0 - m i = -PL i by omega, Int.neg_mul]; omega
theorem sub_yes {n m : Nat → Int} {i : Nat} {b c x u v : Int} (hn : Canl n) (h : SubI n m i) (hi : i < 16) (hb : Eqn b (m (i - 1))) (h0 : b < 0) (hc : Eqn c (b + 65536)) (hx : Eqn x (m i)) (hu : Eqn u (x - PL i)) (hv : Eqn v (u - 1)) : SubI n (upd (upd m (i - 1) c) i v) (i + 1) := by
  unfold Eqn at *
  subst hb hv hu hx hc
  have hh := h
  obtain ⟨g1, g2, g3, g4, g5⟩ := h
  have hni := hn i hi
  have gi := g4 i (Nat.le_refl _)
  have hp : 32767 ≤ PL i ∧ PL i ≤ 65535 := by unfold PL; split <;> (try split) <;> omega
  refine ⟨by omega, fun j hj => ?_, ?_, fun j hj => ?_, ?_⟩
  · rw [upd_other _ _ (by omega)]
    by_cases hji : j + 1 = i
    · rw [show i - 1 = j by omega] at g3 h0 ⊢; rw [upd_same]; unfold In at *; omega
    · rw [upd_other _ _ (by omega)]; exact g2 j (by omega)
  · rw [show i + 1 - 1 = i by omega, upd_same, gi]; unfold In at *; omega
  · rw [upd_other _ _ (by omega), upd_other _ _ (by omega)]; exact g4 j (by omega)
  · refine sub_val hh hi ?_
    rw [vN_upd _ _ hi, vN_upd _ _ (by omega), upd_other _ _ (by omega), show m (i - 1) + 65536 - m (i - 1) = 65536 by omega, show m i - PL i - 1 - m i = -PL i + -1 by omega, Int.add_mul, Int.neg_mul, Int.neg_mul]
    have e : (65536 : Int) ^ i = 65536 * 65536 ^ (i - 1) := by rw [← Int.pow_succ', show i - 1 + 1 = i by omega]
    rw [Int.one_mul]
    generalize PL i * 65536 ^ i = Q
    rw [e]; omega
theorem sub_end {n m : Nat → Int} {b : Int} (hn : Canl n) (h : SubI n m 16) (hb : Eqn b (m 15)) : (0 ≤ b → Canl m ∧ vN m 16 = vN n 16 - 57896044618658097711785492504343953926634992332820282019728792003956564819949) ∧ (b < 0 → vN n 16 < 57896044618658097711785492504343953926634992332820282019728792003956564819949) := by
  unfold Eqn at hb
  subst hb
  obtain ⟨g1, g2, g3, g4, g5⟩ := h
  rw [PL_val] at g5
  have g3 : In (m 15) (-65536) 65535 := g3
  constructor
  · intro h0
    refine ⟨fun j hj => ?_, g5⟩
    by_cases hj15 : j = 15
    · subst hj15; unfold In at *; omega
    · exact g2 j (by omega)
  · intro h0
    have hb := vN_bd (f := m) (a := 0) (b := 65535) (n := 15) (fun j hj => g2 j (by omega))
    have e : vN m 16 = vN m 15 + m 15 * 65536 ^ 15 := rfl
    have hp := pow_pos16 15
    have : m 15 * 65536 ^ 15 ≤ -1 * 65536 ^ 15 := Int.mul_le_mul_of_nonneg_right (by omega) (by omega)
    generalize m 15 * 65536 ^ 15 = q at *
    omega
def Bd (k : Nat) : Int := if k = 0 then 115792089237316195423570985008687907853269984665640564039457584007913129639936 else if k = 1 then 57896044618658097711785492504343953926634992332820282019728792003956564819949 + 38 else 57896044618658097711785492504343953926634992332820282019728792003956564819949
def BytI (a : Fp) (n : Nat → Int) (k : Nat) : Prop := k ≤ 2 ∧ Canl n ∧ fp (vN n 16) = a ∧ vN n 16 < Bd k
theorem bytI_start {n : Nat → Int} {a : Fp} (h : Canl n) (e : fp (vN n 16) = a) : BytI a n 0 := ⟨by decide, h, e, (can_vN h).2⟩
theorem bytI_yes {n m : Nat → Int} {a : Fp} {k i : Nat} {b : Int} (h : BytI a n k) (hk : k < 2) (hs : SubI n m i) (hi : i = 16) (hb : Eqn b (m 15)) (h0 : 0 ≤ b) : BytI a m (k + 1) := by
  subst hi
  obtain ⟨g1, g2, g3, g4⟩ := h
  obtain ⟨c, e⟩ := (sub_end g2 hs hb).1 h0
  refine ⟨by omega, c, by rw [← g3]; exact fp_eq (-1) (by omega), ?_⟩
  rw [e]
  have hk2 : k = 0 ∨ k = 1 := by omega
  rcases hk2 with rfl | rfl <;> simp [Bd] at g4 ⊢ <;> omega
theorem bytI_no {n m : Nat → Int} {a : Fp} {k i : Nat} {b : Int} (h : BytI a n k) (hk : k < 2) (hs : SubI n m i) (hi : i = 16) (hb : Eqn b (m 15)) (h0 : ¬ 0 ≤ b) : BytI a n (k + 1) := by
  subst hi
  obtain ⟨g1, g2, g3, g4⟩ := h
  have e := (sub_end g2 hs hb).2 (by omega)
  refine ⟨by omega, g2, g3, ?_⟩
  have hk2 : k = 0 ∨ k = 1 := by omega
  rcases hk2 with rfl | rfl <;> simp [Bd] <;> omega
theorem leB_join (y : Int) (m : Nat) : ∀ (k : Nat) (x : Int), 0 ≤ x → x < 256 ^ k → leB (x + y * 256 ^ k) (k + m) = leB x k ++ leB y m
  | 0, x, h0, h1 => by
    simp at h1
    obtain rfl : x = 0 := by omega
    simp [leB]
  | k + 1, x, h0, h1 => by
    rw [Int.pow_succ] at h1
    have ih := leB_join y m k (x / 256) (by omega) (by omega)
    rw [show k + 1 + m = k + m + 1 by omega, leB, leB, Int.pow_succ, ← Int.mul_assoc]
    have e1 : (x + y * 256 ^ k * 256) % 256 = x % 256 := by omega
    have e2 : (x + y * 256 ^ k * 256) / 256 = x / 256 + y * 256 ^ k := by omega
    rw [e1, e2, ih]; rfl
def limbB (n : Nat → Int) (i : Nat) : List UInt8 := leB (vN n i) (2 * i)
theorem limb_step {n : Nat → Int} {i : Nat} {x y b1 c b2 : Int} (hn : Canl n) (hi : i < 16) (hx : Eqn x (n i)) (hy : Eqn y (n i)) (h1 : Eqn b1 (x % 256)) (hc : Eqn c (y / 256)) (h2 : Eqn b2 c) :
    bv (limbB n i) ++ [Value.int .u8 b1, .int .u8 b2] = bv (limbB n (i + 1)) := by
  unfold Eqn at *
  subst h2 hc h1 hx hy
  have hb := vN_bd (f := n) (a := 0) (b := 65535) (n := i) (fun j hj => hn j (by omega))
  have hni := hn i hi
  have hp : (65536 : Int) ^ i = 256 ^ (2 * i) := by rw [Int.pow_mul]; rfl
  have e : limbB n (i + 1) = limbB n i ++ leB (n i) 2 := by
    unfold limbB
    rw [vN, hp, show 2 * (i + 1) = 2 * i + 2 by omega]
    rw [hp] at hb
    exact leB_join _ _ _ _ (by omega) (by omega)
  rw [e, bv_append]
  congr 1
  unfold In at hni
  have e1 : (((UInt8.ofNat (n i % 256).toNat).toNat : Nat) : Int) = n i % 256 := by simp; omega
  have e2 : (((UInt8.ofNat (n i / 256 % 256).toNat).toNat : Nat) : Int) = n i / 256 := by simp; omega
  simp only [leB, bv, List.map, e1, e2]
theorem limb_all {n : Nat → Int} {a : Fp} {k i : Nat} (h : BytI a n k) (hk : k = 2) (hi : i = 16) : limbB n i = fpB a := by
  subst hk hi
  obtain ⟨_, g2, g3, g4⟩ := h
  have g0 := (can_vN g2).1
  unfold limbB fpB
  rw [val_of g3 g0 (by simpa [Bd] using g4)]
theorem PL_mid {i : Nat} (h1 : 1 ≤ i) (h : ¬ (i : Int) = 15) : PL i = 65535 := by unfold PL; rw [if_neg (by omega), if_neg (by omega)]
theorem PL_end {i : Nat} (h : (i : Int) = 15) : PL i = 32767 := by unfold PL; rw [if_neg (by omega), if_pos (by omega)]
theorem vN_zeros {f : Nat → Int} : ∀ {n : Nat}, (∀ j, j < n → In (f j) 0 65535) → vN f n = 0 → ∀ j, j < n → f j = 0
  | 0, _, _, j, hj => by omega
  | n + 1, h, e, j, hj => by
    have hb := vN_bd (f := f) (a := 0) (b := 65535) (n := n) (fun j hj => h j (by omega))
    have hn := h n (by omega)
    have hp := pow_pos16 n
    rw [vN] at e
    have h1 : 0 ≤ f n * 65536 ^ n := Int.mul_nonneg hn.1 (by omega)
    have h2 : f n * 65536 ^ n = 0 := by omega
    by_cases hj2 : j = n
    · subst hj2
      rcases Int.mul_eq_zero.1 h2 with h3 | h3
      · exact h3
      · omega
    · have e2 : vN f n = 0 := by omega
      exact vN_zeros (n := n) (fun j hj => h j (by omega)) e2 j (by omega)
theorem small_can {a b c d x y z : Int} {r : Nat → Int} (hx : In x 0 2147483647) (e0 : Eqn a (x % 65536)) (e1 : Eqn y (x / 65536)) (e2 : Eqn b (y % 65536)) (e3 : Eqn z (y / 65536)) (e4 : Eqn c (z % 65536)) (e5 : Eqn d (z / 65536)) (h : Car (four a b c d) r) : Canl r ∧ vN r 16 = x := by
  unfold Eqn at *
  unfold In at hx
  have hv := four_val a b c d
  have e : vN (four a b c d) 16 = x := by omega
  have hc := car_can h (by omega) (by omega)
  obtain ⟨q, l, w1, w2, w3, w4⟩ := h
  obtain ⟨R, w5, w6⟩ := vN_low (g := r) (n := 16) (by decide)
  have w6 := w6 w3
  rw [p256] at w6
  unfold In at w1
  exact ⟨hc, by omega⟩
theorem iv_zeros {r : Nat → Int} (h : Canl r) (e : vN r 16 = 0) : iv .i64 16 r = iv .i64 16 (fun _ => 0) := ivF_congr (fun j _ hj => vN_zeros h e j (by omega))
theorem rn_zero : RN (fun _ => 0) 0 := ⟨by decide, fun _ _ _ => (show In 0 0 65535 by decide), by rw [vN_zero]; decide⟩
end Go.Fld
namespace Go.Proofs.Ytkngeapegpehpaa.W
open Go Go.Eng Go.Byt
set_option linter.unusedVariables false
set_option linter.unusedSimpArgs false
open Go.Fld Go.Ed
set_option maxRecDepth 100000 in
set_option maxHeartbeats 1000000 in
theorem rcarry_any (f : Nat → Int) (hf : Sml f) (w : World) : Rets Try.prog 74 [.agg (iv .i64 16 f).toArray] w (fun v w' => ∃ g, v = .agg (iv .i64 16 g).toArray ∧ Car f g ∧ Keep [] w w') := by
 have hB : Keep [] w w := Keep.refl _ _
 refine rets_of_tw Try.func74 rfl (by decide) Try.ntmps74 rfl (fun fin _ hfin => ?_)
 refine tw_seq (tw_region (ow_d (d_box (cs := iv .i64 16 f) rfl rfl) rfl ?_))
 rintro _ w1 ⟨b1, rfl, eb1, hb1, k1, z1⟩
 have ge_b1 : w.heap.size ≤ b1 := by have := hB.size; omega
 replace hB := hB.trans k1
 clear eb1 z1
 refine ow_d (d_alloc ty36) rfl ?_
 rintro _ w2 ⟨b2, rfl, eb2, hb2, k2, z2⟩
 have ge_b2 : w.heap.size ≤ b2 := by have := hB.size; omega
 have ne_b1_b2 : b1 ≠ b2 := by have := hb1.lt; omega
 replace hb1 := hb1.keep0 k2
 replace hB := hB.trans k2
 clear eb2 z2
 replace hb2 : Bk w2 b2 36 (iv .i64 16 (fun _ => 0)) := by rw [iv, ivF_rep]; exact hb2
 refine ow_nil (tw_seq (tw_seq (tw_region (ow_g (g_as rfl) rfl (ow_nil (tw_block ?_))))))
 refine tw_loop (Γ := Nat × (Nat → Int)) (fun ⟨i, g⟩ => [(1, .pointer (some ⟨b1, 0, none⟩)), (2, .pointer (some ⟨b2, 0, none⟩)), (3, .int .i64 (i : Int))]) (fun ⟨i, g⟩ W => CarI f g i ∧ Bk W b1 36 (iv .i64 16 g) ∧ Bk W b2 36 (iv .i64 16 (fun _ => 0)) ∧ Keep [] w W) (fun ⟨i, g⟩ => 16 - i) ⟨0, f⟩ ⟨rfl, rfl, rfl, trivial⟩ (⟨carI_start hf, hb1, hb2, hB⟩) ?_
 rintro ⟨i, g⟩ w3 ⟨hI, hbx1, hbx2, hB⟩
 refine tw_keep [(1, .pointer (some ⟨b1, 0, none⟩)), (2, .pointer (some ⟨b2, 0, none⟩)), (3, .int .i64 (i : Int))] ⟨rfl, rfl, rfl, trivial⟩ ?_
 refine tw_seq (tw_seq (tw_region (ow_g (g_mv rfl) rfl (ow_g (g_lt rfl rfl) rfl ?_))))
 refine ow_nil (tw_if rfl (fun hc1 => ?_) (fun hc1 => ?_))
 ·
  refine tw_skip (tw_seq (tw_block (tw_seq (tw_region (ow_g (g_mv rfl) rfl (ow_g (g_faE 0 Try.underlying36 rfl ty34 (by decide) rfl rfl) rfl ?_))))))
  refine ow_g (g_ixaE i Try.underlying34 ty3 rfl rfl (by omega) (by omega)) rfl ?_
  have hi16 : i < 16 := by omega
  refine ow_gx (e' := g i) (lo := (-144115188075855872)) (hi := 144115188075855872) (g_ldb sc3 rfl hbx1 (iv_get hi16)) (rfl) (carI_at hI hi16) rfl (fun z3 h1 r1 => ?_)
  refine ow_gx (e' := z3 / 65536) (lo := (-2199023255552)) (hi := 2199023255552) (g_shrp (m := 65536) rfl rfl (by decide) rfl) (rfl) (In.wk (in_div r1 (by decide)) rfl) rfl (fun z4 h2 r2 => ?_)
  refine ow_g (g_as rfl) rfl (ow_nil (tw_seq (tw_region (ow_g (g_mv rfl) rfl (ow_g (g_mv rfl) rfl (ow_g (g_faE 0 Try.underlying36 rfl ty34 (by decide) rfl rfl) rfl ?_))))))
  refine ow_g (g_ixaE i Try.underlying34 ty3 rfl rfl (by omega) (by omega)) rfl ?_
  refine ow_gx (e' := g i) (lo := (-144115188075855872)) (hi := 144115188075855872) (g_ldb sc3 rfl hbx1 (iv_get hi16)) (rfl) (carI_at hI hi16) rfl (fun z5 h3 r3 => ?_)
  refine ow_g (g_mv rfl) rfl (ow_gx (e' := z4 * 65536) (lo := (-144115188075855872)) (hi := 144115188075855872) (g_shlp (m := 65536) rfl rfl (by decide) rfl) (wrap_fit (in_mulc r2 (by decide)) rfl) (In.wk (in_mulc r2 (by decide)) rfl) rfl (fun z6 h4 r4 => ?_))
  refine ow_gx (e' := z5 - z6) (lo := (-288230376151711744)) (hi := 288230376151711744) (g_subw rfl rfl) (wrap_fit (in_sub r3 r4) rfl) (In.wk (in_sub r3 r4) rfl) rfl (fun z7 h5 r5 => ?_)
  refine ow_g (g_faE 0 Try.underlying36 rfl ty34 (by decide) rfl rfl) rfl ?_
  refine ow_g (g_ixaE i Try.underlying34 ty3 rfl rfl (by omega) (by omega)) rfl ?_
  refine ow_d0 (d_stix (v := z7) ty3 rfl rfl hbx1 (by omega)) ?_
  rintro _ w4 ⟨hb3, k3, z8⟩
  replace hbx2 := hbx2.keep k3 (fun hm => absurd (List.mem_singleton.1 hm) (Ne.symm ne_b1_b2))
  replace hB := hB.new k3 (fun x hx => .inl ((List.mem_singleton.1 hx) ▸ ge_b1))
  clear z8
  refine ow_nil (tw_keep [(1, _), (2, _), (3, _), (4, _)] ⟨rfl, rfl, rfl, rfl, trivial⟩ ?_)
  refine tw_seq (tw_region (ow_g (g_mv rfl) rfl (ow_g (g_lt rfl rfl) rfl ?_)))
  refine ow_nil (tw_if rfl (fun hc2 => ?_) (fun hc2 => ?_))
  ·
   refine tw_region (ow_g (g_mv rfl) rfl (ow_g (g_add rfl rfl (by omega)) rfl ?_))
   refine ow_g (g_mv rfl) rfl (ow_g (g_add rfl rfl (by omega)) rfl ?_)
   refine ow_g (g_faE 0 Try.underlying36 rfl ty34 (by decide) rfl rfl) rfl ?_
   refine ow_g (g_ixaE (i + 1) Try.underlying34 ty3 rfl rfl (by omega) (by omega)) rfl ?_
   have hi15 : i < 15 := by omega
   refine ow_gx (e' := g (i + 1)) (lo := (-72057594037927936)) (hi := 72057594037927936) (g_ldb sc3 rfl hb3 (iv_get (by omega))) (upd_other _ _ (by omega)) (carI_next hf hI hi15) rfl (fun z9 h6 r6 => ?_)
   refine ow_g (g_mv rfl) rfl (ow_gx (e' := z9 + z4) (lo := (-72059793061183488)) (hi := 72059793061183488) (g_addw rfl rfl) (wrap_fit (in_add r6 r2) rfl) (In.wk (in_add r6 r2) rfl) rfl (fun z10 h7 r7 => ?_))
   refine ow_g (g_faE 0 Try.underlying36 rfl ty34 (by decide) rfl rfl) rfl ?_
   refine ow_g (g_ixaE (i + 1) Try.underlying34 ty3 rfl rfl (by omega) (by omega)) rfl ?_
   refine ow_d0 (d_stix (v := z10) ty3 rfl rfl hb3 (by omega)) ?_
   rintro _ w5 ⟨hb4, k4, z11⟩
   replace hbx2 := hbx2.keep k4 (fun hm => absurd (List.mem_singleton.1 hm) (Ne.symm ne_b1_b2))
   replace hB := hB.new k4 (fun x hx => .inl ((List.mem_singleton.1 hx) ▸ ge_b1))
   clear z11
   refine ow_nil (tw_keep [(1, _), (2, _), (3, _)] ⟨rfl, rfl, rfl, trivial⟩ ?_)
   refine tw_b (tw_region (ow_g (g_mv rfl) rfl (ow_g (g_add rfl rfl (by omega)) rfl ?_)))
   refine ow_g (g_as rfl) rfl (ow_nil (tw_inv (Γ := Nat × (Nat → Int)) ⟨i + 1, _⟩ ⟨rfl, rfl, rfl, trivial⟩ (by (try dsimp only); omega) (⟨carI_step hf hI hi15 (show Eqn z4 (g i / 65536) from by have a := h2; have b := h1; unfold Eqn at *; rw [b] at a; exact a) h4 (show Eqn z7 (g i - z6) from by have a := h5; have b := h3; unfold Eqn at *; rw [b] at a; exact a) (show Eqn z10 (g (i + 1) + z4) from by have a := h7; have b := h6; unfold Eqn at *; rw [b] at a; exact a), hb4, hbx2, hB⟩)))
  ·
   refine tw_region (ow_g (g_faE 0 Try.underlying36 rfl ty34 (by decide) rfl rfl) rfl ?_)
   refine ow_g (g_ixaE 0 Try.underlying34 ty3 rfl rfl (by omega) (by omega)) rfl ?_
   refine ow_gx (e' := g 0) (lo := 0) (hi := 65535) (g_ldb sc3 rfl hb3 (iv_get (by decide))) (upd_other _ _ (by omega)) (carI_zero hI hi16 (by omega)) rfl (fun z12 h8 r8 => ?_)
   refine ow_g (g_mv rfl) rfl (ow_gx (e' := 38 * z4) (lo := (-83562883710976)) (hi := 83562883710976) (g_mulw rfl rfl) (wrap_fit (in_cmul r2 (by decide)) rfl) (In.wk (in_cmul r2 (by decide)) rfl) rfl (fun z13 h9 r9 => ?_))
   refine ow_gx (e' := z12 + z13) (lo := (-83562883710976)) (hi := 83562883776511) (g_addw rfl rfl) (wrap_fit (in_add r8 r9) rfl) (In.wk (in_add r8 r9) rfl) rfl (fun z14 h10 r10 => ?_)
   refine ow_g (g_faE 0 Try.underlying36 rfl ty34 (by decide) rfl rfl) rfl ?_
   refine ow_g (g_ixaE 0 Try.underlying34 ty3 rfl rfl (by omega) (by omega)) rfl ?_
   refine ow_d0 (d_stix (v := z14) ty3 rfl rfl hb3 (by omega)) ?_
   rintro _ w6 ⟨hb5, k5, z15⟩
   replace hbx2 := hbx2.keep k5 (fun hm => absurd (List.mem_singleton.1 hm) (Ne.symm ne_b1_b2))
   replace hB := hB.new k5 (fun x hx => .inl ((List.mem_singleton.1 hx) ▸ ge_b1))
   clear z15
   refine ow_nil (tw_keep [(1, _), (2, _), (3, _)] ⟨rfl, rfl, rfl, trivial⟩ ?_)
   refine tw_b (tw_region (ow_g (g_mv rfl) rfl (ow_g (g_add rfl rfl (by omega)) rfl ?_)))
   refine ow_g (g_as rfl) rfl (ow_nil (tw_inv (Γ := Nat × (Nat → Int)) ⟨i + 1, _⟩ ⟨rfl, rfl, rfl, trivial⟩ (by (try dsimp only); omega) (⟨carI_last hI hi16 ‹_› (show Eqn z4 (g i / 65536) from by have a := h2; have b := h1; unfold Eqn at *; rw [b] at a; exact a) h4 (show Eqn z7 (g i - z6) from by have a := h5; have b := h3; unfold Eqn at *; rw [b] at a; exact a) h9 (show Eqn z14 (g 0 + z13) from by have a := h10; have b := h8; unfold Eqn at *; rw [b] at a; exact a), hb5, hbx2, hB⟩)))
 ·
  refine tw_exit rfl ?_
  refine tw_seq (tw_region (ow_g (g_ldab (cs' := iv .i64 16 g) ag36 ty36 rfl hbx1 rfl rfl) rfl ?_))
  refine ow_d0 (d_stw (vs := iv .i64 16 g) ty36 rfl rfl rfl ivF_one hbx2 rfl) ?_
  rintro _ w7 ⟨hb6, k6, z16⟩
  replace hbx1 := hbx1.keep k6 (fun hm => absurd (List.mem_singleton.1 hm) ne_b1_b2)
  replace hB := hB.new k6 (fun x hx => .inl ((List.mem_singleton.1 hx) ▸ ge_b2))
  clear z16
  refine ow_nil (tw_retc hfin Try.results74 rfl (run_loadAgg ag36 ty36 ‹_› rfl)  ?_)
  exact ⟨g, rfl, carI_end hI ‹_›, hB⟩
set_option maxRecDepth 100000 in
set_option maxHeartbeats 1000000 in
theorem rplus_any (f g : Nat → Int) (a b : Fp) (hf : RN f a) (hg : RN g b) (w : World) : Rets Try.prog 51 [.agg (iv .i64 16 f).toArray, .agg (iv .i64 16 g).toArray] w (fun v w' => ∃ r, v = .agg (iv .i64 16 r).toArray ∧ RN r (a + b) ∧ Keep [] w w') := by
 have hB : Keep [] w w := Keep.refl _ _
 refine rets_of_tw Try.func51 rfl (by decide) Try.ntmps51 rfl (fun fin _ hfin => ?_)
 refine tw_seq (tw_region (ow_d (d_box (cs := iv .i64 16 f) rfl rfl) rfl ?_))
 rintro _ w1 ⟨b1, rfl, eb1, hb1, k1, z1⟩
 have ge_b1 : w.heap.size ≤ b1 := by have := hB.size; omega
 replace hB := hB.trans k1
 clear eb1 z1
 refine ow_d (d_box (cs := iv .i64 16 g) rfl rfl) rfl ?_
 rintro _ w2 ⟨b2, rfl, eb2, hb2, k2, z2⟩
 have ge_b2 : w.heap.size ≤ b2 := by have := hB.size; omega
 have ne_b1_b2 : b1 ≠ b2 := by have := hb1.lt; omega
 replace hb1 := hb1.keep0 k2
 replace hB := hB.trans k2
 clear eb2 z2
 refine ow_d (d_alloc ty36) rfl ?_
 rintro _ w3 ⟨b3, rfl, eb3, hb3, k3, z3⟩
 have ge_b3 : w.heap.size ≤ b3 := by have := hB.size; omega
 have ne_b1_b3 : b1 ≠ b3 := by have := hb1.lt; omega
 have ne_b2_b3 : b2 ≠ b3 := by have := hb2.lt; omega
 replace hb1 := hb1.keep0 k3
 replace hb2 := hb2.keep0 k3
 replace hB := hB.trans k3
 clear eb3 z3
 replace hb3 : Bk w3 b3 36 (iv .i64 16 (fun _ => 0)) := by rw [iv, ivF_rep]; exact hb3
 refine ow_nil (tw_seq (tw_seq (tw_region (ow_g (g_as rfl) rfl (ow_nil (tw_block ?_))))))
 refine tw_loop (Γ := Nat × (Nat → Int)) (fun ⟨i, h⟩ => [(2, .pointer (some ⟨b1, 0, none⟩)), (3, .pointer (some ⟨b2, 0, none⟩)), (4, .pointer (some ⟨b3, 0, none⟩)), (5, .int .i64 (i : Int))]) (fun ⟨i, h⟩ W => i ≤ 16 ∧ Part (fun j => f j + g j) f h i ∧ Bk W b1 36 (iv .i64 16 h) ∧ Bk W b2 36 (iv .i64 16 g) ∧ Bk W b3 36 (iv .i64 16 (fun _ => 0)) ∧ Keep [] w W) (fun ⟨i, h⟩ => 16 - i) ⟨0, f⟩ ⟨rfl, rfl, rfl, rfl, trivial⟩ (⟨by decide, part_start _ _, hb1, hb2, hb3, hB⟩) ?_
 rintro ⟨i, h⟩ w4 ⟨hi, hI, hbx2, hbx3, hbx4, hB⟩
 refine tw_keep [(2, .pointer (some ⟨b1, 0, none⟩)), (3, .pointer (some ⟨b2, 0, none⟩)), (4, .pointer (some ⟨b3, 0, none⟩)), (5, .int .i64 (i : Int))] ⟨rfl, rfl, rfl, rfl, trivial⟩ ?_
 refine tw_seq (tw_seq (tw_region (ow_g (g_mv rfl) rfl (ow_g (g_lt rfl rfl) rfl ?_))))
 refine ow_nil (tw_if rfl (fun hc1 => ?_) (fun hc1 => ?_))
 ·
  refine tw_skip (tw_seq (tw_block (tw_planA 11 [0, 1, 2, 3, 4, 5, 6, 7, 8, 9, 10] [] [] [] mixed [(5, _), (2, _), (3, _), (4, _)] ⟨rfl, rfl, rfl, rfl, trivial⟩ (by decide +kernel) (by decide) (by decide) ?_ (fun x hx => by cases hx) rfl (fun w5 k4 => ?_))))
  · intro q hq; cases hq
  replace hbx2 := hbx2.keep0 k4
  replace hbx3 := hbx3.keep0 k4
  replace hbx4 := hbx4.keep0 k4
  replace hB := hB.trans k4
  refine pa_g [(5, _)] rfl rfl ⟨rfl, trivial⟩ rfl (fun W' kk => g_mv rfl) ?_
  refine pa_g [(5, _)] rfl rfl ⟨rfl, trivial⟩ rfl (fun W' kk => g_mv rfl) ?_
  refine pa_g [(2, _)] rfl rfl ⟨rfl, trivial⟩ rfl (fun W' kk => g_faE 0 Try.underlying36 rfl ty34 (by decide) rfl rfl) ?_
  refine pa_g [(11, _), (12, _)] rfl rfl ⟨rfl, rfl, trivial⟩ rfl (fun W' kk => g_ixaE i Try.underlying34 ty3 rfl rfl (by omega) (by omega)) ?_
  have hi16 : i < 16 := by omega
  refine pa_gx (e' := f i) (lo := (-4096)) (hi := 69631) [(13, _)] rfl rfl ⟨rfl, trivial⟩ rfl (fun W' kk => g_ldb sc3 rfl (Bk.keep0 hbx2 kk) (iv_get hi16)) (hI.2 i (Nat.le_refl _)) (rn_sml hf i hi16) (fun z4 h1 r1 => ?_)
  refine pa_g [(5, _)] rfl rfl ⟨rfl, trivial⟩ rfl (fun W' kk => g_mv rfl) ?_
  refine pa_g [(3, _)] rfl rfl ⟨rfl, trivial⟩ rfl (fun W' kk => g_faE 0 Try.underlying36 rfl ty34 (by decide) rfl rfl) ?_
  refine pa_g [(15, _), (16, _)] rfl rfl ⟨rfl, rfl, trivial⟩ rfl (fun W' kk => g_ixaE i Try.underlying34 ty3 rfl rfl (by omega) (by omega)) ?_
  refine pa_gx (e' := g i) (lo := (-4096)) (hi := 69631) [(17, _)] rfl rfl ⟨rfl, trivial⟩ rfl (fun W' kk => g_ldb sc3 rfl (Bk.keep0 hbx3 kk) (iv_get hi16)) (rfl) (rn_sml hg i hi16) (fun z5 h2 r2 => ?_)
  refine pa_gx (e' := z4 + z5) (lo := (-8192)) (hi := 139262) [(14, _), (18, _)] rfl rfl ⟨rfl, rfl, trivial⟩ rfl (fun W' kk => g_addw rfl rfl) (wrap_fit (in_add r1 r2) rfl) (In.wk (in_add r1 r2) rfl) (fun z6 h3 r3 => ?_)
  refine pa_g [(2, _)] rfl rfl ⟨rfl, trivial⟩ rfl (fun W' kk => g_faE 0 Try.underlying36 rfl ty34 (by decide) rfl rfl) ?_
  refine pa_nil (fun w6 k5 => ?_)
  replace hbx2 := hbx2.keep0 k5
  replace hbx3 := hbx3.keep0 k5
  replace hbx4 := hbx4.keep0 k5
  replace hB := hB.trans k5
  refine fina_nil ?_
  refine ow_g (g_ixaE i Try.underlying34 ty3 rfl rfl (by omega) (by omega)) rfl ?_
  refine ow_d0 (d_stix (v := z6) ty3 rfl rfl hbx2 (by omega)) ?_
  rintro _ w7 ⟨hb4, k6, z7⟩
  replace hbx3 := hbx3.keep k6 (fun hm => absurd (List.mem_singleton.1 hm) (Ne.symm ne_b1_b2))
  replace hbx4 := hbx4.keep k6 (fun hm => absurd (List.mem_singleton.1 hm) (Ne.symm ne_b1_b3))
  replace hB := hB.new k6 (fun x hx => .inl ((List.mem_singleton.1 hx) ▸ ge_b1))
  clear z7
  refine ow_nil (tw_keep [(5, _), (2, _), (3, _), (4, _)] ⟨rfl, rfl, rfl, rfl, trivial⟩ ?_)
  refine tw_b (tw_region (ow_g (g_mv rfl) rfl (ow_g (g_add rfl rfl (by omega)) rfl ?_)))
  refine ow_g (g_as rfl) rfl (ow_nil (tw_inv (Γ := Nat × (Nat → Int)) ⟨i + 1, _⟩ ⟨rfl, rfl, rfl, rfl, trivial⟩ (by (try dsimp only); omega) (⟨by omega, part_step hI (by have a := h1; have b := h2; have c := h3; unfold Eqn at *; rw [c, a, b]), hb4, hbx3, hbx4, hB⟩)))
 ·
  refine tw_exit rfl ?_
  refine tw_seq (tw_region (ow_g (g_ldab (cs' := iv .i64 16 h) ag36 ty36 rfl hbx2 rfl rfl) rfl ?_))
  refine ow_d (d_call (vs := [_]) rfl (rcarry_any _ (add_sml hf hg (fun j hj => hI.1 j (by omega))) _)) rfl ?_
  rintro _ w8 ⟨hh1, rfl, E1, k7⟩
  replace hbx2 := hbx2.keep0 k7
  replace hbx3 := hbx3.keep0 k7
  replace hbx4 := hbx4.keep0 k7
  replace hB := hB.trans k7
  refine ow_d0 (d_stw (vs := iv .i64 16 hh1) ty36 rfl rfl rfl ivF_one hbx4 rfl) ?_
  rintro _ w9 ⟨hb5, k8, z8⟩
  replace hbx2 := hbx2.keep k8 (fun hm => absurd (List.mem_singleton.1 hm) ne_b1_b3)
  replace hbx3 := hbx3.keep k8 (fun hm => absurd (List.mem_singleton.1 hm) ne_b2_b3)
  replace hB := hB.new k8 (fun x hx => .inl ((List.mem_singleton.1 hx) ▸ ge_b3))
  clear z8
  refine ow_nil (tw_retc hfin Try.results51 rfl (run_loadAgg ag36 ty36 ‹_› rfl)  ?_)
  exact ⟨hh1, rfl, rn_add hf hg (fun j hj => hI.1 j (by omega)) E1, hB⟩
set_option maxRecDepth 100000 in
set_option maxHeartbeats 1000000 in
theorem rminus_any (f g : Nat → Int) (a b : Fp) (hf : RN f a) (hg : RN g b) (w : World) : Rets Try.prog 50 [.agg (iv .i64 16 f).toArray, .agg (iv .i64 16 g).toArray] w (fun v w' => ∃ r, v = .agg (iv .i64 16 r).toArray ∧ RN r (a - b) ∧ Keep [] w w') := by
 have hB : Keep [] w w := Keep.refl _ _
 refine rets_of_tw Try.func50 rfl (by decide) Try.ntmps50 rfl (fun fin _ hfin => ?_)
 refine tw_seq (tw_region (ow_d (d_box (cs := iv .i64 16 f) rfl rfl) rfl ?_))
 rintro _ w1 ⟨b1, rfl, eb1, hb1, k1, z1⟩
 have ge_b1 : w.heap.size ≤ b1 := by have := hB.size; omega
 replace hB := hB.trans k1
 clear eb1 z1
 refine ow_d (d_box (cs := iv .i64 16 g) rfl rfl) rfl ?_
 rintro _ w2 ⟨b2, rfl, eb2, hb2, k2, z2⟩
 have ge_b2 : w.heap.size ≤ b2 := by have := hB.size; omega
 have ne_b1_b2 : b1 ≠ b2 := by have := hb1.lt; omega
 replace hb1 := hb1.keep0 k2
 replace hB := hB.trans k2
 clear eb2 z2
 refine ow_d (d_alloc ty36) rfl ?_
 rintro _ w3 ⟨b3, rfl, eb3, hb3, k3, z3⟩
 have ge_b3 : w.heap.size ≤ b3 := by have := hB.size; omega
 have ne_b1_b3 : b1 ≠ b3 := by have := hb1.lt; omega
 have ne_b2_b3 : b2 ≠ b3 := by have := hb2.lt; omega
 replace hb1 := hb1.keep0 k3
 replace hb2 := hb2.keep0 k3
 replace hB := hB.trans k3
 clear eb3 z3
 replace hb3 : Bk w3 b3 36 (iv .i64 16 (fun _ => 0)) := by rw [iv, ivF_rep]; exact hb3
 refine ow_nil (tw_seq (tw_seq (tw_region (ow_g (g_as rfl) rfl (ow_nil (tw_block ?_))))))
 refine tw_loop (Γ := Nat × (Nat → Int)) (fun ⟨i, h⟩ => [(2, .pointer (some ⟨b1, 0, none⟩)), (3, .pointer (some ⟨b2, 0, none⟩)), (4, .pointer (some ⟨b3, 0, none⟩)), (5, .int .i64 (i : Int))]) (fun ⟨i, h⟩ W => i ≤ 16 ∧ Part (fun j => f j - g j) f h i ∧ Bk W b1 36 (iv .i64 16 h) ∧ Bk W b2 36 (iv .i64 16 g) ∧ Bk W b3 36 (iv .i64 16 (fun _ => 0)) ∧ Keep [] w W) (fun ⟨i, h⟩ => 16 - i) ⟨0, f⟩ ⟨rfl, rfl, rfl, rfl, trivial⟩ (⟨by decide, part_start _ _, hb1, hb2, hb3, hB⟩) ?_
 rintro ⟨i, h⟩ w4 ⟨hi, hI, hbx2, hbx3, hbx4, hB⟩
 refine tw_keep [(2, .pointer (some ⟨b1, 0, none⟩)), (3, .pointer (some ⟨b2, 0, none⟩)), (4, .pointer (some ⟨b3, 0, none⟩)), (5, .int .i64 (i : Int))] ⟨rfl, rfl, rfl, rfl, trivial⟩ ?_
 refine tw_seq (tw_seq (tw_region (ow_g (g_mv rfl) rfl (ow_g (g_lt rfl rfl) rfl ?_))))
 refine ow_nil (tw_if rfl (fun hc1 => ?_) (fun hc1 => ?_))
 ·
  refine tw_skip (tw_seq (tw_block (tw_planA 11 [0, 1, 2, 3, 4, 5, 6, 7, 8, 9, 10] [] [] [] mixed [(5, _), (2, _), (3, _), (4, _)] ⟨rfl, rfl, rfl, rfl, trivial⟩ (by decide +kernel) (by decide) (by decide) ?_ (fun x hx => by cases hx) rfl (fun w5 k4 => ?_))))
  · intro q hq; cases hq
  replace hbx2 := hbx2.keep0 k4
  replace hbx3 := hbx3.keep0 k4
  replace hbx4 := hbx4.keep0 k4
  replace hB := hB.trans k4
  refine pa_g [(5, _)] rfl rfl ⟨rfl, trivial⟩ rfl (fun W' kk => g_mv rfl) ?_
  refine pa_g [(5, _)] rfl rfl ⟨rfl, trivial⟩ rfl (fun W' kk => g_mv rfl) ?_
  refine pa_g [(2, _)] rfl rfl ⟨rfl, trivial⟩ rfl (fun W' kk => g_faE 0 Try.underlying36 rfl ty34 (by decide) rfl rfl) ?_
  refine pa_g [(11, _), (12, _)] rfl rfl ⟨rfl, rfl, trivial⟩ rfl (fun W' kk => g_ixaE i Try.underlying34 ty3 rfl rfl (by omega) (by omega)) ?_
  have hi16 : i < 16 := by omega
  refine pa_gx (e' := f i) (lo := (-4096)) (hi := 69631) [(13, _)] rfl rfl ⟨rfl, trivial⟩ rfl (fun W' kk => g_ldb sc3 rfl (Bk.keep0 hbx2 kk) (iv_get hi16)) (hI.2 i (Nat.le_refl _)) (rn_sml hf i hi16) (fun z4 h1 r1 => ?_)
  refine pa_g [(5, _)] rfl rfl ⟨rfl, trivial⟩ rfl (fun W' kk => g_mv rfl) ?_
  refine pa_g [(3, _)] rfl rfl ⟨rfl, trivial⟩ rfl (fun W' kk => g_faE 0 Try.underlying36 rfl ty34 (by decide) rfl rfl) ?_
  refine pa_g [(15, _), (16, _)] rfl rfl ⟨rfl, rfl, trivial⟩ rfl (fun W' kk => g_ixaE i Try.underlying34 ty3 rfl rfl (by omega) (by omega)) ?_
  refine pa_gx (e' := g i) (lo := (-4096)) (hi := 69631) [(17, _)] rfl rfl ⟨rfl, trivial⟩ rfl (fun W' kk => g_ldb sc3 rfl (Bk.keep0 hbx3 kk) (iv_get hi16)) (rfl) (rn_sml hg i hi16) (fun z5 h2 r2 => ?_)
  refine pa_gx (e' := z4 - z5) (lo := (-73727)) (hi := 73727) [(14, _), (18, _)] rfl rfl ⟨rfl, rfl, trivial⟩ rfl (fun W' kk => g_subw rfl rfl) (wrap_fit (in_sub r1 r2) rfl) (In.wk (in_sub r1 r2) rfl) (fun z6 h3 r3 => ?_)
  refine pa_g [(2, _)] rfl rfl ⟨rfl, trivial⟩ rfl (fun W' kk => g_faE 0 Try.underlying36 rfl ty34 (by decide) rfl rfl) ?_
  refine pa_nil (fun w6 k5 => ?_)
  replace hbx2 := hbx2.keep0 k5
  replace hbx3 := hbx3.keep0 k5
  replace hbx4 := hbx4.keep0 k5
  replace hB := hB.trans k5
  refine fina_nil ?_
  refine ow_g (g_ixaE i Try.underlying34 ty3 rfl rfl (by omega) (by omega)) rfl ?_
  refine ow_d0 (d_stix (v := z6) ty3 rfl rfl hbx2 (by omega)) ?_
  rintro _ w7 ⟨hb4, k6, z7⟩
  replace hbx3 := hbx3.keep k6 (fun hm => absurd (List.mem_singleton.1 hm) (Ne.symm ne_b1_b2))
  replace hbx4 := hbx4.keep k6 (fun hm => absurd (List.mem_singleton.1 hm) (Ne.symm ne_b1_b3))
  replace hB := hB.new k6 (fun x hx => .inl ((List.mem_singleton.1 hx) ▸ ge_b1))
  clear z7
  refine ow_nil (tw_keep [(5, _), (2, _), (3, _), (4, _)] ⟨rfl, rfl, rfl, rfl, trivial⟩ ?_)
  refine tw_b (tw_region (ow_g (g_mv rfl) rfl (ow_g (g_add rfl rfl (by omega)) rfl ?_)))
  refine ow_g (g_as rfl) rfl (ow_nil (tw_inv (Γ := Nat × (Nat → Int)) ⟨i + 1, _⟩ ⟨rfl, rfl, rfl, rfl, trivial⟩ (by (try dsimp only); omega) (⟨by omega, part_step hI (by have a := h1; have b := h2; have c := h3; unfold Eqn at *; rw [c, a, b]), hb4, hbx3, hbx4, hB⟩)))
 ·
  refine tw_exit rfl ?_
  refine tw_seq (tw_region (ow_g (g_ldab (cs' := iv .i64 16 h) ag36 ty36 rfl hbx2 rfl rfl) rfl ?_))
  refine ow_d (d_call (vs := [_]) rfl (rcarry_any _ (sub_sml hf hg (fun j hj => hI.1 j (by omega))) _)) rfl ?_
  rintro _ w8 ⟨hh1, rfl, E1, k7⟩
  replace hbx2 := hbx2.keep0 k7
  replace hbx3 := hbx3.keep0 k7
  replace hbx4 := hbx4.keep0 k7
  replace hB := hB.trans k7
  refine ow_d0 (d_stw (vs := iv .i64 16 hh1) ty36 rfl rfl rfl ivF_one hbx4 rfl) ?_
  rintro _ w9 ⟨hb5, k8, z8⟩
  replace hbx2 := hbx2.keep k8 (fun hm => absurd (List.mem_singleton.1 hm) ne_b1_b3)
  replace hbx3 := hbx3.keep k8 (fun hm => absurd (List.mem_singleton.1 hm) ne_b2_b3)
  replace hB := hB.new k8 (fun x hx => .inl ((List.mem_singleton.1 hx) ▸ ge_b3))
  clear z8
  refine ow_nil (tw_retc hfin Try.results50 rfl (run_loadAgg ag36 ty36 ‹_› rfl)  ?_)
  exact ⟨hh1, rfl, rn_sub hf hg (fun j hj => hI.1 j (by omega)) E1, hB⟩
set_option maxRecDepth 100000 in
set_option maxHeartbeats 1000000 in
theorem rfrom_any (v : Value) (xs : List UInt8) (w : World) (hv : RdB w v xs) (hx : xs.length = 32) : Rets Try.prog 45 [v] w (fun v w' => ∃ r, v = .agg (iv .i64 16 r).toArray ∧ RN r (fp (leI xs)) ∧ Keep [] w w') := by
 have hB : Keep [] w w := Keep.refl _ _
 refine rets_of_tw Try.func45 rfl (by decide) Try.ntmps45 rfl (fun fin _ hfin => ?_)
 refine tw_seq (tw_region (ow_d (d_alloc ty36) rfl ?_))
 rintro _ w1 ⟨b1, rfl, eb1, hb1, k1, z1⟩
 have ge_b1 : w.heap.size ≤ b1 := by have := hB.size; omega
 replace hB := hB.trans k1
 clear eb1 z1
 replace hb1 : Bk w1 b1 36 (iv .i64 16 (fun _ => 0)) := by rw [iv, ivF_rep]; exact hb1
 refine ow_nil (tw_seq (tw_region (ow_d (d_alloc ty36) rfl ?_)))
 rintro _ w2 ⟨b2, rfl, eb2, hb2, k2, z2⟩
 have ge_b2 : w.heap.size ≤ b2 := by have := hB.size; omega
 have ne_b1_b2 : b1 ≠ b2 := by have := hb1.lt; omega
 replace hb1 := hb1.keep0 k2
 replace hB := hB.trans k2
 clear eb2 z2
 replace hb2 : Bk w2 b2 36 (iv .i64 16 (fun _ => 0)) := by rw [iv, ivF_rep]; exact hb2
 refine ow_nil (tw_seq (tw_seq (tw_region (ow_g (g_as rfl) rfl (ow_nil (tw_block ?_))))))
 refine tw_loop (Γ := Nat × (Nat → Int)) (fun ⟨i, h⟩ => [(0, v), (2, .pointer (some ⟨b1, 0, none⟩)), (3, .pointer (some ⟨b2, 0, none⟩)), (4, .int .i64 (i : Int))]) (fun ⟨i, h⟩ W => i ≤ 16 ∧ Part (pairs xs) (fun _ => 0) h i ∧ Bk W b1 36 (iv .i64 16 (fun _ => 0)) ∧ Bk W b2 36 (iv .i64 16 h) ∧ Keep [] w W) (fun ⟨i, h⟩ => 16 - i) ⟨0, _⟩ ⟨rfl, rfl, rfl, rfl, trivial⟩ (⟨by decide, part_start _ _, hb1, hb2, hB⟩) ?_
 rintro ⟨i, h⟩ w3 ⟨hi, hI, hbx2, hbx3, hB⟩
 refine tw_keep [(0, v), (2, .pointer (some ⟨b1, 0, none⟩)), (3, .pointer (some ⟨b2, 0, none⟩)), (4, .int .i64 (i : Int))] ⟨rfl, rfl, rfl, rfl, trivial⟩ ?_
 refine tw_seq (tw_seq (tw_region (ow_g (g_mv rfl) rfl (ow_g (g_lt rfl rfl) rfl ?_))))
 refine ow_nil (tw_if rfl (fun hc1 => ?_) (fun hc1 => ?_))
 ·
  refine tw_skip (tw_seq (tw_block (tw_planA 17 [0, 1, 2, 3, 4, 5, 6, 7, 8, 9, 10, 11, 12, 13, 14, 15, 16] [] [] [] mixed [(4, _), (0, _), (3, _), (2, _)] ⟨rfl, rfl, rfl, rfl, trivial⟩ (by decide +kernel) (by decide) (by decide) ?_ (fun x hx => by cases hx) rfl (fun w4 k3 => ?_))))
  · intro q hq; cases hq
  replace hbx2 := hbx2.keep0 k3
  replace hbx3 := hbx3.keep0 k3
  replace hB := hB.trans k3
  refine pa_g [(4, _)] rfl rfl ⟨rfl, trivial⟩ rfl (fun W' kk => g_mv rfl) ?_
  refine pa_g [(0, _)] rfl rfl ⟨rfl, trivial⟩ rfl (fun W' kk => g_mv rfl) ?_
  refine pa_g [(4, _)] rfl rfl ⟨rfl, trivial⟩ rfl (fun W' kk => g_mv rfl) ?_
  refine pa_g [(11, _)] rfl rfl ⟨rfl, trivial⟩ rfl (fun W' kk => g_mul rfl rfl (by omega)) ?_
  refine pa_g [(10, _), (12, _)] rfl rfl ⟨rfl, rfl, trivial⟩ rfl (fun W' kk => g_ix Try.underlying22 ty5 rfl (by first | exact Rd.keep0 ‹_› kk | exact Rd.keep0 (Own.rd ‹_›) kk | exact Rd.keep0 (Rd.keep0 ‹_› hB) kk | exact Rd.keep0 (Own.rd (Own.keep0 ‹_› hB)) kk) rfl (by omega)) ?_
  refine pa_g [(13, _)] rfl rfl ⟨rfl, trivial⟩ rfl (fun W' kk => g_ldB sc5 rfl (by first | exact Rd.keep0 ‹_› kk | exact Rd.keep0 (Own.rd ‹_›) kk | exact Rd.keep0 (Rd.keep0 ‹_› hB) kk | exact Rd.keep0 (Own.rd (Own.keep0 ‹_› hB)) kk) (by omega)) ?_
  refine pa_gx (e' := (gb xs ((2 * (i : Int))))) (lo := 0) (hi := 255) [(14, _)] rfl rfl ⟨rfl, trivial⟩ rfl (fun W' kk => g_cv (by rw [Try.underlying5]; rfl) Try.underlying3 rfl) (wrap_fit (gb_range xs ((2 * (i : Int)))) rfl) ((gb_range xs ((2 * (i : Int))))) (fun z3 h1 r1 => ?_)
  refine pa_g [(0, _)] rfl rfl ⟨rfl, trivial⟩ rfl (fun W' kk => g_mv rfl) ?_
  refine pa_g [(4, _)] rfl rfl ⟨rfl, trivial⟩ rfl (fun W' kk => g_mv rfl) ?_
  refine pa_g [(17, _)] rfl rfl ⟨rfl, trivial⟩ rfl (fun W' kk => g_mul rfl rfl (by omega)) ?_
  refine pa_g [(18, _)] rfl rfl ⟨rfl, trivial⟩ rfl (fun W' kk => g_add rfl rfl (by omega)) ?_
  refine pa_g [(16, _), (19, _)] rfl rfl ⟨rfl, rfl, trivial⟩ rfl (fun W' kk => g_ix Try.underlying22 ty5 rfl (by first | exact Rd.keep0 ‹_› kk | exact Rd.keep0 (Own.rd ‹_›) kk | exact Rd.keep0 (Rd.keep0 ‹_› hB) kk | exact Rd.keep0 (Own.rd (Own.keep0 ‹_› hB)) kk) rfl (by omega)) ?_
  refine pa_g [(20, _)] rfl rfl ⟨rfl, trivial⟩ rfl (fun W' kk => g_ldB sc5 rfl (by first | exact Rd.keep0 ‹_› kk | exact Rd.keep0 (Own.rd ‹_›) kk | exact Rd.keep0 (Rd.keep0 ‹_› hB) kk | exact Rd.keep0 (Own.rd (Own.keep0 ‹_› hB)) kk) (by omega)) ?_
  refine pa_gx (e' := (gb xs (((2 * (i : Int)) + 1)))) (lo := 0) (hi := 255) [(21, _)] rfl rfl ⟨rfl, trivial⟩ rfl (fun W' kk => g_cv (by rw [Try.underlying5]; rfl) Try.underlying3 rfl) (wrap_fit (gb_range xs (((2 * (i : Int)) + 1))) rfl) ((gb_range xs (((2 * (i : Int)) + 1)))) (fun z4 h2 r2 => ?_)
  refine pa_gx (e' := z4 * 256) (lo := 0) (hi := 65280) [(22, _)] rfl rfl ⟨rfl, trivial⟩ rfl (fun W' kk => g_mulw rfl rfl) (wrap_fit (in_mulc r2 (by decide)) rfl) (In.wk (in_mulc r2 (by decide)) rfl) (fun z5 h3 r3 => ?_)
  refine pa_gx (e' := z3 + z5) (lo := 0) (hi := 65535) [(15, _), (23, _)] rfl rfl ⟨rfl, rfl, trivial⟩ rfl (fun W' kk => g_addw rfl rfl) (wrap_fit (in_add r1 r3) rfl) (In.wk (in_add r1 r3) rfl) (fun z6 h4 r4 => ?_)
  refine pa_g [(3, _)] rfl rfl ⟨rfl, trivial⟩ rfl (fun W' kk => g_faE 0 Try.underlying36 rfl ty34 (by decide) rfl rfl) ?_
  refine pa_nil (fun w5 k4 => ?_)
  replace hbx2 := hbx2.keep0 k4
  replace hbx3 := hbx3.keep0 k4
  replace hB := hB.trans k4
  refine fina_nil ?_
  refine ow_g (g_ixaE i Try.underlying34 ty3 rfl rfl (by omega) (by omega)) rfl ?_
  refine ow_d0 (d_stix (v := z6) ty3 rfl rfl hbx3 (by omega)) ?_
  rintro _ w6 ⟨hb3, k5, z7⟩
  replace hbx2 := hbx2.keep k5 (fun hm => absurd (List.mem_singleton.1 hm) ne_b1_b2)
  replace hB := hB.new k5 (fun x hx => .inl ((List.mem_singleton.1 hx) ▸ ge_b2))
  clear z7
  refine ow_nil (tw_keep [(4, _), (0, _), (3, _), (2, _)] ⟨rfl, rfl, rfl, rfl, trivial⟩ ?_)
  refine tw_b (tw_region (ow_g (g_mv rfl) rfl (ow_g (g_add rfl rfl (by omega)) rfl ?_)))
  refine ow_g (g_as rfl) rfl (ow_nil (tw_inv (Γ := Nat × (Nat → Int)) ⟨i + 1, _⟩ ⟨rfl, rfl, rfl, rfl, trivial⟩ (by (try dsimp only); omega) (⟨by omega, part_step hI (by have a := h1; have b := h2; have c := h3; have d := h4; unfold Eqn pairs at *; rw [d, c, a, b]), hbx2, hb3, hB⟩)))
 ·
  refine tw_exit rfl ?_
  refine tw_seq (tw_region (ow_g (g_ldab (cs' := iv .i64 16 h) ag36 ty36 rfl hbx3 rfl rfl) rfl ?_))
  refine ow_d0 (d_stw (vs := iv .i64 16 h) ty36 rfl rfl rfl ivF_one hbx2 rfl) ?_
  rintro _ w7 ⟨hb4, k6, z8⟩
  replace hbx3 := hbx3.keep k6 (fun hm => absurd (List.mem_singleton.1 hm) (Ne.symm ne_b1_b2))
  replace hB := hB.new k6 (fun x hx => .inl ((List.mem_singleton.1 hx) ▸ ge_b1))
  clear z8
  refine ow_nil (tw_retc hfin Try.results45 rfl (run_loadAgg ag36 ty36 ‹_› rfl)  ?_)
  exact ⟨h, rfl, rn_from hx (fun j hj => hI.1 j (by omega)), hB⟩
set_option maxRecDepth 100000 in
set_option maxHeartbeats 1000000 in
theorem rsmall_any (x : Int) (hx : In x 0 2147483647) (w : World) : Rets Try.prog 47 [.int .i64 x] w (fun v w' => ∃ r, v = .agg (iv .i64 16 r).toArray ∧ RN r (fp x) ∧ (Canl r ∧ vN r 16 = x) ∧ Keep [] w w') := by
 have hB : Keep [] w w := Keep.refl _ _
 refine rets_of_tw Try.func47 rfl (by decide) Try.ntmps47 rfl (fun fin _ hfin => ?_)
 refine tw_seq (tw_region (ow_d (d_alloc ty36) rfl ?_))
 rintro _ w1 ⟨b1, rfl, eb1, hb1, k1, z1⟩
 have ge_b1 : w.heap.size ≤ b1 := by have := hB.size; omega
 replace hB := hB.trans k1
 clear eb1 z1
 replace hb1 : Bk w1 b1 36 (iv .i64 16 (fun _ => 0)) := by rw [iv, ivF_rep]; exact hb1
 refine ow_nil (tw_seq (tw_region (ow_d (d_alloc ty36) rfl ?_)))
 rintro _ w2 ⟨b2, rfl, eb2, hb2, k2, z2⟩
 have ge_b2 : w.heap.size ≤ b2 := by have := hB.size; omega
 have ne_b1_b2 : b1 ≠ b2 := by have := hb1.lt; omega
 replace hb1 := hb1.keep0 k2
 replace hB := hB.trans k2
 clear eb2 z2
 replace hb2 : Bk w2 b2 36 (iv .i64 16 (fun _ => 0)) := by rw [iv, ivF_rep]; exact hb2
 refine ow_nil (tw_seq (tw_seq (tw_region (ow_g (g_as rfl) rfl (ow_nil (tw_block ?_))))))
 refine tw_unroll 3 ?_
 refine tw_seq (tw_seq (tw_region (ow_g (g_mv rfl) rfl (ow_g (g_lt rfl rfl) rfl ?_))))
 refine ow_nil (tw_ifT rfl (by decide) ?_)
 refine tw_skip (tw_seq (tw_block (tw_seq (tw_region (ow_g (g_mv rfl) rfl (ow_g (g_mv rfl) rfl ?_))))))
 refine ow_gx (e' := x % 65536) (lo := 0) (hi := 65535) (g_and rfl rfl) (and65535 hx rfl rfl) (In.wk (in_mod _ (by decide)) rfl) rfl (fun z3 h1 r1 => ?_)
 refine ow_g (g_faE 0 Try.underlying36 rfl ty34 (by decide) rfl rfl) rfl ?_
 refine ow_g (g_ixaE 0 Try.underlying34 ty3 rfl rfl (by omega) (by omega)) rfl ?_
 refine ow_d0 (d_stix (v := z3) ty3 rfl rfl hb2 (by omega)) ?_
 rintro _ w3 ⟨hb3, k3, z4⟩
 replace hb1 := hb1.keep k3 (fun hm => absurd (List.mem_singleton.1 hm) ne_b1_b2)
 replace hB := hB.new k3 (fun x hx => .inl ((List.mem_singleton.1 hx) ▸ ge_b2))
 clear z4
 refine ow_nil (tw_region (ow_g (g_mv rfl) rfl (ow_gx (e' := x / 65536) (lo := 0) (hi := 32767) (g_shrp (m := 65536) rfl rfl (by decide) rfl) (rfl) (In.wk (in_div hx (by decide)) rfl) rfl (fun z5 h2 r2 => ?_))))
 refine ow_g (g_as rfl) rfl (ow_nil (tw_b (tw_region (ow_g (g_mv rfl) rfl (ow_g (g_fold (j := 1) (g_addw rfl rfl) (by decide)) rfl ?_)))))
 refine ow_g (g_as rfl) rfl (ow_nil (tw_keep [(0, _), (2, _), (3, _), (4, _)] ⟨rfl, rfl, rfl, rfl, trivial⟩ ?_))
 refine tw_lp (tw_seq (tw_seq (tw_region (ow_g (g_mv rfl) rfl (ow_g (g_lt rfl rfl) rfl ?_)))))
 refine ow_nil (tw_ifT rfl (by decide) ?_)
 refine tw_skip (tw_seq (tw_block (tw_seq (tw_region (ow_g (g_mv rfl) rfl (ow_g (g_mv rfl) rfl ?_))))))
 refine ow_gx (e' := z5 % 65536) (lo := 0) (hi := 65535) (g_and rfl rfl) (and65535 r2 rfl rfl) (In.wk (in_mod _ (by decide)) rfl) rfl (fun z6 h3 r3 => ?_)
 refine ow_g (g_faE 0 Try.underlying36 rfl ty34 (by decide) rfl rfl) rfl ?_
 refine ow_g (g_ixaE 1 Try.underlying34 ty3 rfl rfl (by omega) (by omega)) rfl ?_
 refine ow_d0 (d_stix (v := z6) ty3 rfl rfl hb3 (by omega)) ?_
 rintro _ w4 ⟨hb4, k4, z7⟩
 replace hb1 := hb1.keep k4 (fun hm => absurd (List.mem_singleton.1 hm) ne_b1_b2)
 replace hB := hB.new k4 (fun x hx => .inl ((List.mem_singleton.1 hx) ▸ ge_b2))
 clear z7
 refine ow_nil (tw_region (ow_g (g_mv rfl) rfl (ow_gx (e' := z5 / 65536) (lo := 0) (hi := 0) (g_shrp (m := 65536) rfl rfl (by decide) rfl) (rfl) (In.wk (in_div r2 (by decide)) rfl) rfl (fun z8 h4 r4 => ?_))))
 refine ow_g (g_as rfl) rfl (ow_nil (tw_b (tw_region (ow_g (g_mv rfl) rfl (ow_g (g_fold (j := 2) (g_addw rfl rfl) (by decide)) rfl ?_)))))
 refine ow_g (g_as rfl) rfl (ow_nil (tw_keep [(0, _), (2, _), (3, _), (4, _)] ⟨rfl, rfl, rfl, rfl, trivial⟩ ?_))
 refine tw_lp (tw_seq (tw_seq (tw_region (ow_g (g_mv rfl) rfl (ow_g (g_lt rfl rfl) rfl ?_)))))
 refine ow_nil (tw_ifT rfl (by decide) ?_)
 refine tw_skip (tw_seq (tw_block (tw_seq (tw_region (ow_g (g_mv rfl) rfl (ow_g (g_mv rfl) rfl ?_))))))
 refine ow_gx (e' := z8 % 65536) (lo := 0) (hi := 65535) (g_and rfl rfl) (and65535 r4 rfl rfl) (In.wk (in_mod _ (by decide)) rfl) rfl (fun z9 h5 r5 => ?_)
 refine ow_g (g_faE 0 Try.underlying36 rfl ty34 (by decide) rfl rfl) rfl ?_
 refine ow_g (g_ixaE 2 Try.underlying34 ty3 rfl rfl (by omega) (by omega)) rfl ?_
 refine ow_d0 (d_stix (v := z9) ty3 rfl rfl hb4 (by omega)) ?_
 rintro _ w5 ⟨hb5, k5, z10⟩
 replace hb1 := hb1.keep k5 (fun hm => absurd (List.mem_singleton.1 hm) ne_b1_b2)
 replace hB := hB.new k5 (fun x hx => .inl ((List.mem_singleton.1 hx) ▸ ge_b2))
 clear z10
 refine ow_nil (tw_region (ow_g (g_mv rfl) rfl (ow_gx (e' := z8 / 65536) (lo := 0) (hi := 0) (g_shrp (m := 65536) rfl rfl (by decide) rfl) (rfl) (In.wk (in_div r4 (by decide)) rfl) rfl (fun z11 h6 r6 => ?_))))
 refine ow_g (g_as rfl) rfl (ow_nil (tw_b (tw_region (ow_g (g_mv rfl) rfl (ow_g (g_fold (j := 3) (g_addw rfl rfl) (by decide)) rfl ?_)))))
 refine ow_g (g_as rfl) rfl (ow_nil (tw_keep [(0, _), (2, _), (3, _), (4, _)] ⟨rfl, rfl, rfl, rfl, trivial⟩ ?_))
 refine tw_lp (tw_seq (tw_seq (tw_region (ow_g (g_mv rfl) rfl (ow_g (g_lt rfl rfl) rfl ?_)))))
 refine ow_nil (tw_ifF rfl (by decide) ?_)
 refine tw_exit rfl ?_
 refine tw_seq (tw_region (ow_g (g_mv rfl) rfl (ow_g (g_faE 0 Try.underlying36 rfl ty34 (by decide) rfl rfl) rfl ?_)))
 refine ow_g (g_ixaE 3 Try.underlying34 ty3 rfl rfl (by omega) (by omega)) rfl ?_
 refine ow_d0 (d_stix (v := z11) ty3 rfl rfl hb5 (by omega)) ?_
 rintro _ w6 ⟨hb6, k6, z12⟩
 replace hb1 := hb1.keep k6 (fun hm => absurd (List.mem_singleton.1 hm) ne_b1_b2)
 replace hB := hB.new k6 (fun x hx => .inl ((List.mem_singleton.1 hx) ▸ ge_b2))
 clear z12
 refine ow_nil (tw_seq (tw_region (ow_g (g_ldab (cs' := iv .i64 16 (upd (upd (upd (upd (fun _ => 0) 0 z3) 1 z6) 2 z9) 3 z11)) ag36 ty36 rfl hb6 rfl rfl) rfl ?_)))
 refine ow_d (d_call (vs := [_]) rfl (rcarry_any _ (four_sml (In.wk r1 rfl) (In.wk r3 rfl) (In.wk r5 rfl) (In.wk r6 rfl)) _)) rfl ?_
 rintro _ w7 ⟨hh1, rfl, E1, k7⟩
 replace hb1 := hb1.keep0 k7
 replace hb6 := hb6.keep0 k7
 replace hB := hB.trans k7
 refine ow_d0 (d_stw (vs := iv .i64 16 hh1) ty36 rfl rfl rfl ivF_one hb1 rfl) ?_
 rintro _ w8 ⟨hb7, k8, z13⟩
 replace hb6 := hb6.keep k8 (fun hm => absurd (List.mem_singleton.1 hm) (Ne.symm ne_b1_b2))
 replace hB := hB.new k8 (fun x hx => .inl ((List.mem_singleton.1 hx) ▸ ge_b1))
 clear z13
 refine ow_nil (tw_keep [(2, _)] ⟨rfl, trivial⟩ ?_)
 refine tw_retc hfin Try.results47 rfl (run_loadAgg ag36 ty36 ‹_› rfl)  ?_
 exact ⟨hh1, rfl, rn_small hx h1 h2 h3 h4 h5 h6 E1, small_can hx h1 h2 h3 h4 h5 h6 E1, hB⟩
theorem rsmall_zero (w : World) : Rets Try.prog 47 [.int .i64 0] w (fun v w' => v = .agg (iv .i64 16 (fun _ => 0)).toArray ∧ Keep [] w w') :=
  (rsmall_any 0 (by decide) w).mono fun v w' ⟨r, e, _, h, k⟩ => ⟨by rw [e, iv_zeros h.1 h.2], k⟩
end Go.Proofs.Ytkngeapegpehpaa.W
namespace Go.Proofs.Ytkngeapegpehpaa.W
open Go Go.Eng Go.Byt
set_option linter.unusedVariables false
set_option linter.unusedSimpArgs false
open Go.Fld Go.Ed
set_option maxRecDepth 100000 in
set_option maxHeartbeats 1000000 in
theorem rtimes_any (f g : Nat → Int) (a b : Fp) (hf : RN f a) (hg : RN g b) (w : World) : Rets Try.prog 48 [.agg (iv .i64 16 f).toArray, .agg (iv .i64 16 g).toArray] w (fun v w' => ∃ r, v = .agg (iv .i64 16 r).toArray ∧ RN r (a * b) ∧ Keep [] w w') := by
 have hB : Keep [] w w := Keep.refl _ _
 refine rets_of_tw Try.func48 rfl (by decide) Try.ntmps48 rfl (fun fin _ hfin => ?_)
 refine tw_seq (tw_region (ow_d (d_box (cs := iv .i64 16 f) rfl rfl) rfl ?_))
 rintro _ w1 ⟨b1, rfl, eb1, hb1, k1, z1⟩
 have ge_b1 : w.heap.size ≤ b1 := by have := hB.size; omega
 replace hB := hB.trans k1
 clear eb1 z1
 refine ow_d (d_box (cs := iv .i64 16 g) rfl rfl) rfl ?_
 rintro _ w2 ⟨b2, rfl, eb2, hb2, k2, z2⟩
 have ge_b2 : w.heap.size ≤ b2 := by have := hB.size; omega
 have ne_b1_b2 : b1 ≠ b2 := by have := hb1.lt; omega
 replace hb1 := hb1.keep0 k2
 replace hB := hB.trans k2
 clear eb2 z2
 refine ow_d (d_alloc ty36) rfl ?_
 rintro _ w3 ⟨b3, rfl, eb3, hb3, k3, z3⟩
 have ge_b3 : w.heap.size ≤ b3 := by have := hB.size; omega
 have ne_b1_b3 : b1 ≠ b3 := by have := hb1.lt; omega
 have ne_b2_b3 : b2 ≠ b3 := by have := hb2.lt; omega
 replace hb1 := hb1.keep0 k3
 replace hb2 := hb2.keep0 k3
 replace hB := hB.trans k3
 clear eb3 z3
 replace hb3 : Bk w3 b3 36 (iv .i64 16 (fun _ => 0)) := by rw [iv, ivF_rep]; exact hb3
 refine ow_nil (tw_seq (tw_region (ow_d (d_alloc ty99) rfl ?_)))
 rintro _ w4 ⟨b4, rfl, eb4, hb4, k4, z4⟩
 have ge_b4 : w.heap.size ≤ b4 := by have := hB.size; omega
 have ne_b1_b4 : b1 ≠ b4 := by have := hb1.lt; omega
 have ne_b2_b4 : b2 ≠ b4 := by have := hb2.lt; omega
 have ne_b3_b4 : b3 ≠ b4 := by have := hb3.lt; omega
 replace hb1 := hb1.keep0 k4
 replace hb2 := hb2.keep0 k4
 replace hb3 := hb3.keep0 k4
 replace hB := hB.trans k4
 clear eb4 z4
 replace hb4 : Bk w4 b4 99 (iv .i64 31 (fun _ => 0)) := by rw [iv, ivF_rep]; exact hb4
 refine ow_nil (tw_seq (tw_seq (tw_region (ow_g (g_as rfl) rfl (ow_nil (tw_block ?_))))))
 refine tw_loop (Γ := Nat × (Nat → Int)) (fun ⟨i, t⟩ => [(2, .pointer (some ⟨b1, 0, none⟩)), (3, .pointer (some ⟨b2, 0, none⟩)), (4, .pointer (some ⟨b3, 0, none⟩)), (5, .pointer (some ⟨b4, 0, none⟩)), (6, .int .i64 (i : Int))]) (fun ⟨i, t⟩ W => i ≤ 16 ∧ MulI f g t i 0 ∧ Bk W b1 36 (iv .i64 16 f) ∧ Bk W b2 36 (iv .i64 16 g) ∧ Bk W b3 36 (iv .i64 16 (fun _ => 0)) ∧ Bk W b4 99 (iv .i64 31 t) ∧ Keep [] w W) (fun ⟨i, t⟩ => 16 - i) ⟨0, _⟩ ⟨rfl, rfl, rfl, rfl, rfl, trivial⟩ (⟨by decide, mulI_start _ _, hb1, hb2, hb3, hb4, hB⟩) ?_
 rintro ⟨i, t⟩ w5 ⟨hi, hI, hbx2, hbx3, hbx4, hbx5, hB⟩
 refine tw_keep [(2, .pointer (some ⟨b1, 0, none⟩)), (3, .pointer (some ⟨b2, 0, none⟩)), (4, .pointer (some ⟨b3, 0, none⟩)), (5, .pointer (some ⟨b4, 0, none⟩)), (6, .int .i64 (i : Int))] ⟨rfl, rfl, rfl, rfl, rfl, trivial⟩ ?_
 refine tw_seq (tw_seq (tw_region (ow_g (g_mv rfl) rfl (ow_g (g_lt rfl rfl) rfl ?_))))
 refine ow_nil (tw_if rfl (fun hc1 => ?_) (fun hc1 => ?_))
 ·
  refine tw_skip (tw_seq (tw_block (tw_seq (tw_region (ow_g (g_as rfl) rfl (ow_nil ?_))))))
  refine tw_block (tw_loop (Γ := Nat × (Nat → Int)) (fun ⟨k, u⟩ => [(2, .pointer (some ⟨b1, 0, none⟩)), (3, .pointer (some ⟨b2, 0, none⟩)), (4, .pointer (some ⟨b3, 0, none⟩)), (5, .pointer (some ⟨b4, 0, none⟩)), (6, .int .i64 (i : Int)), (7, .int .i64 (k : Int))]) (fun ⟨k, u⟩ W => k ≤ 16 ∧ MulI f g u i k ∧ Bk W b1 36 (iv .i64 16 f) ∧ Bk W b2 36 (iv .i64 16 g) ∧ Bk W b3 36 (iv .i64 16 (fun _ => 0)) ∧ Bk W b4 99 (iv .i64 31 u) ∧ Keep [] w W) (fun ⟨k, u⟩ => 16 - k) ⟨0, t⟩ ⟨rfl, rfl, rfl, rfl, rfl, rfl, trivial⟩ (⟨by decide, hI, hbx2, hbx3, hbx4, hbx5, hB⟩) ?_)
  rintro ⟨k, u⟩ w6 ⟨hk, hJ, hbx2, hbx3, hbx4, hbx5, hB⟩
  refine tw_keep [(2, .pointer (some ⟨b1, 0, none⟩)), (3, .pointer (some ⟨b2, 0, none⟩)), (4, .pointer (some ⟨b3, 0, none⟩)), (5, .pointer (some ⟨b4, 0, none⟩)), (6, .int .i64 (i : Int)), (7, .int .i64 (k : Int))] ⟨rfl, rfl, rfl, rfl, rfl, rfl, trivial⟩ ?_
  refine tw_seq (tw_seq (tw_region (ow_g (g_mv rfl) rfl (ow_g (g_lt rfl rfl) rfl ?_))))
  refine ow_nil (tw_if rfl (fun hc2 => ?_) (fun hc2 => ?_))
  ·
   refine tw_skip (tw_seq (tw_block (tw_still 18 mixed (by decide +kernel) (fun w7 k5 => ?_))))
   replace hbx2 := hbx2.keep0 k5
   replace hbx3 := hbx3.keep0 k5
   replace hbx4 := hbx4.keep0 k5
   replace hbx5 := hbx5.keep0 k5
   replace hB := hB.trans k5
   refine sw_g (g_mv rfl) rfl (sw_g (g_mv rfl) rfl (sw_g (g_add rfl rfl (by omega)) rfl ?_))
   refine sw_g (g_mv rfl) rfl (sw_g (g_mv rfl) rfl (sw_g (g_add rfl rfl (by omega)) rfl ?_))
   refine sw_g (g_ixaE (i + k) Try.underlying99 ty3 rfl rfl (by omega) (by omega)) rfl ?_
   have hi16 : i < 16 := by omega
   have hk16 : k < 16 := by omega
   refine sw_gx (e' := u (i + k)) (lo := (-18691697672192)) (hi := 18691697672192) (g_ldb sc3 rfl hbx5 (iv_get (by omega))) (rfl) (mulI_in hJ hi hk (by omega)) rfl (fun z5 h1 r1 => ?_)
   refine sw_g (g_mv rfl) rfl (sw_g (g_faE 0 Try.underlying36 rfl ty34 (by decide) rfl rfl) rfl ?_)
   refine sw_g (g_ixaE i Try.underlying34 ty3 rfl rfl (by omega) (by omega)) rfl ?_
   refine sw_gx (e' := f i) (lo := (-69631)) (hi := 69631) (g_ldb sc3 rfl hbx2 (iv_get hi16)) (rfl) (In.wk (rn_sml hf i hi16) rfl) rfl (fun z6 h2 r2 => ?_)
   refine sw_g (g_mv rfl) rfl (sw_g (g_faE 0 Try.underlying36 rfl ty34 (by decide) rfl rfl) rfl ?_)
   refine sw_g (g_ixaE k Try.underlying34 ty3 rfl rfl (by omega) (by omega)) rfl ?_
   refine sw_gx (e' := g k) (lo := (-69631)) (hi := 69631) (g_ldb sc3 rfl hbx3 (iv_get hk16)) (rfl) (In.wk (rn_sml hg k hk16) rfl) rfl (fun z7 h3 r3 => ?_)
   refine sw_gx (e' := z6 * z7) (lo := (-4848476161)) (hi := 4848476161) (g_mulw rfl rfl) (wrap_fit (in_mulS r2 r3) rfl) (In.wk (in_mulS r2 r3) rfl) rfl (fun z8 h4 r4 => ?_)
   refine sw_gx (e' := z5 + z8) (lo := (-18696546148353)) (hi := 18696546148353) (g_addw rfl rfl) (wrap_fit (in_add r1 r4) rfl) (In.wk (in_add r1 r4) rfl) rfl (fun z9 h5 r5 => ?_)
   refine sw_nil ?_
   refine ow_g (g_ixaE (i + k) Try.underlying99 ty3 rfl rfl (by omega) (by omega)) rfl ?_
   refine ow_d0 (d_stix (v := z9) ty3 rfl rfl hbx5 (by omega)) ?_
   rintro _ w8 ⟨hb5, k6, z10⟩
   replace hbx2 := hbx2.keep k6 (fun hm => absurd (List.mem_singleton.1 hm) ne_b1_b4)
   replace hbx3 := hbx3.keep k6 (fun hm => absurd (List.mem_singleton.1 hm) ne_b2_b4)
   replace hbx4 := hbx4.keep k6 (fun hm => absurd (List.mem_singleton.1 hm) ne_b3_b4)
   replace hB := hB.new k6 (fun x hx => .inl ((List.mem_singleton.1 hx) ▸ ge_b4))
   clear z10
   refine ow_nil (tw_keep [(2, _), (3, _), (4, _), (5, _), (6, _), (7, _)] ⟨rfl, rfl, rfl, rfl, rfl, rfl, trivial⟩ ?_)
   refine tw_b (tw_region (ow_g (g_mv rfl) rfl (ow_g (g_add rfl rfl (by omega)) rfl ?_)))
   refine ow_g (g_as rfl) rfl (ow_nil (tw_inv (Γ := Nat × (Nat → Int)) ⟨k + 1, _⟩ ⟨rfl, rfl, rfl, rfl, rfl, rfl, trivial⟩ (by (try dsimp only); omega) (⟨by omega, mulI_step (p := z8) hf hg hJ hi16 hk16 (by have a := h2; have b := h3; have c := h4; unfold Eqn at *; rw [c, a, b]) (by have a := h1; have b := h5; unfold Eqn at *; rw [b, a]), hbx2, hbx3, hbx4, hb5, hB⟩)))
  ·
   refine tw_exit rfl ?_
   refine tw_b (tw_region (ow_g (g_mv rfl) rfl (ow_g (g_add rfl rfl (by omega)) rfl ?_)))
   refine ow_g (g_as rfl) rfl (ow_nil (tw_inv (Γ := Nat × (Nat → Int)) ⟨i + 1, u⟩ ⟨rfl, rfl, rfl, rfl, rfl, trivial⟩ (by (try dsimp only); omega) (⟨by omega, mulI_row' hJ (by omega), hbx2, hbx3, hbx4, hbx5, hB⟩)))
 ·
  refine tw_exit rfl ?_
  refine tw_seq (tw_region (ow_d (d_alloc ty36) rfl ?_))
  rintro _ w9 ⟨b5, rfl, eb5, hb6, k7, z11⟩
  have ge_b5 : w.heap.size ≤ b5 := by have := hB.size; omega
  have ne_b1_b5 : b1 ≠ b5 := by have := hbx2.lt; omega
  have ne_b2_b5 : b2 ≠ b5 := by have := hbx3.lt; omega
  have ne_b3_b5 : b3 ≠ b5 := by have := hbx4.lt; omega
  have ne_b4_b5 : b4 ≠ b5 := by have := hbx5.lt; omega
  replace hbx2 := hbx2.keep0 k7
  replace hbx3 := hbx3.keep0 k7
  replace hbx4 := hbx4.keep0 k7
  replace hbx5 := hbx5.keep0 k7
  replace hB := hB.trans k7
  clear eb5 z11
  replace hb6 : Bk w9 b5 36 (iv .i64 16 (fun _ => 0)) := by rw [iv, ivF_rep]; exact hb6
  refine ow_nil (tw_seq (tw_seq (tw_region (ow_g (g_as rfl) rfl (ow_nil (tw_block ?_))))))
  refine tw_loop (Γ := Nat × (Nat → Int)) (fun ⟨n, h⟩ => [(4, .pointer (some ⟨b3, 0, none⟩)), (5, .pointer (some ⟨b4, 0, none⟩)), (8, .pointer (some ⟨b5, 0, none⟩)), (9, .int .i64 (n : Int))]) (fun ⟨n, h⟩ W => n ≤ 16 ∧ Part (fold38 t) (fun _ => 0) h n ∧ Bk W b3 36 (iv .i64 16 (fun _ => 0)) ∧ Bk W b4 99 (iv .i64 31 t) ∧ Bk W b5 36 (iv .i64 16 h) ∧ Keep [] w W) (fun ⟨n, h⟩ => 16 - n) ⟨0, _⟩ ⟨rfl, rfl, rfl, rfl, trivial⟩ (⟨by decide, part_start _ _, hbx4, hbx5, hb6, hB⟩) ?_
  rintro ⟨n, h⟩ w10 ⟨hn, hP, hbx4, hbx5, hbx8, hB⟩
  refine tw_keep [(4, .pointer (some ⟨b3, 0, none⟩)), (5, .pointer (some ⟨b4, 0, none⟩)), (8, .pointer (some ⟨b5, 0, none⟩)), (9, .int .i64 (n : Int))] ⟨rfl, rfl, rfl, rfl, trivial⟩ ?_
  have hM := mulI_end hI (by omega)
  refine tw_seq (tw_seq (tw_region (ow_g (g_mv rfl) rfl (ow_g (g_lt rfl rfl) rfl ?_))))
  refine ow_nil (tw_if rfl (fun hc3 => ?_) (fun hc3 => ?_))
  ·
   refine tw_skip (tw_seq (tw_block (tw_seq (tw_region (ow_g (g_mv rfl) rfl (ow_g (g_mv rfl) rfl ?_))))))
   refine ow_g (g_ixaE n Try.underlying99 ty3 rfl rfl (by omega) (by omega)) rfl ?_
   have hn16 : n < 16 := by omega
   refine ow_gx (e' := t n) (lo := (-18691697672192)) (hi := 18691697672192) (g_ldb sc3 rfl hbx5 (iv_get (by omega))) (rfl) (mulI_in hM (by decide) (by decide) (by omega)) rfl (fun z12 h6 r6 => ?_)
   refine ow_g (g_faE 0 Try.underlying36 rfl ty34 (by decide) rfl rfl) rfl ?_
   refine ow_g (g_ixaE n Try.underlying34 ty3 rfl rfl (by omega) (by omega)) rfl ?_
   refine ow_d0 (d_stix (v := z12) ty3 rfl rfl hbx8 (by omega)) ?_
   rintro _ w11 ⟨hb7, k8, z13⟩
   replace hbx4 := hbx4.keep k8 (fun hm => absurd (List.mem_singleton.1 hm) ne_b3_b5)
   replace hbx5 := hbx5.keep k8 (fun hm => absurd (List.mem_singleton.1 hm) ne_b4_b5)
   replace hB := hB.new k8 (fun x hx => .inl ((List.mem_singleton.1 hx) ▸ ge_b5))
   clear z13
   refine ow_nil (tw_seq (tw_region (ow_g (g_mv rfl) rfl (ow_g (g_lt rfl rfl) rfl ?_))))
   refine ow_nil (tw_if rfl (fun hc4 => ?_) (fun hc4 => ?_))
   ·
    refine tw_planA 12 [0, 1, 2, 3, 4, 5, 6, 7, 8, 9, 10, 11] [] [] [] mixed [(9, _), (8, _), (5, _), (4, _)] ⟨rfl, rfl, rfl, rfl, trivial⟩ (by decide +kernel) (by decide) (by decide) ?_ (fun x hx => by cases hx) rfl (fun w12 k9 => ?_)
    · intro q hq; cases hq
    replace hbx4 := hbx4.keep0 k9
    replace hbx5 := hbx5.keep0 k9
    replace hb7 := hb7.keep0 k9
    replace hB := hB.trans k9
    refine pa_g [(9, _)] rfl rfl ⟨rfl, trivial⟩ rfl (fun W' kk => g_mv rfl) ?_
    refine pa_g [(9, _)] rfl rfl ⟨rfl, trivial⟩ rfl (fun W' kk => g_mv rfl) ?_
    refine pa_g [(8, _)] rfl rfl ⟨rfl, trivial⟩ rfl (fun W' kk => g_faE 0 Try.underlying36 rfl ty34 (by decide) rfl rfl) ?_
    refine pa_g [(50, _), (51, _)] rfl rfl ⟨rfl, rfl, trivial⟩ rfl (fun W' kk => g_ixaE n Try.underlying34 ty3 rfl rfl (by omega) (by omega)) ?_
    have hn15 : n < 15 := by omega
    refine pa_gx (e' := z12) (lo := (-18691697672192)) (hi := 18691697672192) [(52, _)] rfl rfl ⟨rfl, trivial⟩ rfl (fun W' kk => g_ldb sc3 rfl (Bk.keep0 hb7 kk) (iv_get hn16)) (upd_same _ _ _) (r6) (fun z14 h7 r7 => ?_)
    refine pa_g [(9, _)] rfl rfl ⟨rfl, trivial⟩ rfl (fun W' kk => g_mv rfl) ?_
    refine pa_g [(54, _)] rfl rfl ⟨rfl, trivial⟩ rfl (fun W' kk => g_add rfl rfl (by omega)) ?_
    refine pa_g [(5, _), (55, _)] rfl rfl ⟨rfl, rfl, trivial⟩ rfl (fun W' kk => g_ixaE (n + 16) Try.underlying99 ty3 rfl rfl (by omega) (by omega)) ?_
    refine pa_gx (e' := t (n + 16)) (lo := (-18691697672192)) (hi := 18691697672192) [(56, _)] rfl rfl ⟨rfl, trivial⟩ rfl (fun W' kk => g_ldb sc3 rfl (Bk.keep0 hbx5 kk) (iv_get (by omega))) (rfl) (mulI_in hM (by decide) (by decide) (by omega)) (fun z15 h8 r8 => ?_)
    refine pa_gx (e' := 38 * z15) (lo := (-710284511543296)) (hi := 710284511543296) [(57, _)] rfl rfl ⟨rfl, trivial⟩ rfl (fun W' kk => g_mulw rfl rfl) (wrap_fit (in_cmul r8 (by decide)) rfl) (In.wk (in_cmul r8 (by decide)) rfl) (fun z16 h9 r9 => ?_)
    refine pa_gx (e' := z14 + z16) (lo := (-728976209215488)) (hi := 728976209215488) [(53, _), (58, _)] rfl rfl ⟨rfl, rfl, trivial⟩ rfl (fun W' kk => g_addw rfl rfl) (wrap_fit (in_add r7 r9) rfl) (In.wk (in_add r7 r9) rfl) (fun z17 h10 r10 => ?_)
    refine pa_g [(8, _)] rfl rfl ⟨rfl, trivial⟩ rfl (fun W' kk => g_faE 0 Try.underlying36 rfl ty34 (by decide) rfl rfl) ?_
    refine pa_nil (fun w13 k10 => ?_)
    replace hbx4 := hbx4.keep0 k10
    replace hbx5 := hbx5.keep0 k10
    replace hb7 := hb7.keep0 k10
    replace hB := hB.trans k10
    refine fina_nil ?_
    refine ow_g (g_ixaE n Try.underlying34 ty3 rfl rfl (by omega) (by omega)) rfl ?_
    refine ow_d0 (d_stix (v := z17) ty3 rfl rfl hb7 (by omega)) ?_
    rintro _ w14 ⟨hb8, k11, z18⟩
    replace hbx4 := hbx4.keep k11 (fun hm => absurd (List.mem_singleton.1 hm) ne_b3_b5)
    replace hbx5 := hbx5.keep k11 (fun hm => absurd (List.mem_singleton.1 hm) ne_b4_b5)
    replace hB := hB.new k11 (fun x hx => .inl ((List.mem_singleton.1 hx) ▸ ge_b5))
    clear z18
    refine ow_nil (tw_keep [(9, _), (8, _), (5, _), (4, _)] ⟨rfl, rfl, rfl, rfl, trivial⟩ ?_)
    refine tw_b (tw_region (ow_g (g_mv rfl) rfl (ow_g (g_add rfl rfl (by omega)) rfl ?_)))
    refine ow_g (g_as rfl) rfl (ow_nil (tw_inv (Γ := Nat × (Nat → Int)) ⟨n + 1, _⟩ ⟨rfl, rfl, rfl, rfl, trivial⟩ (by (try dsimp only); omega) (⟨by omega, part_twice hP (by have a := h6; have b := h7; have c := h8; have d := h9; have e := h10; unfold Eqn at *; rw [e, d, c, b, a, fold38_lt _ hn15]), hbx4, hbx5, hb8, hB⟩)))
   ·
    refine tw_skip (tw_b (tw_region (ow_g (g_mv rfl) rfl (ow_g (g_add rfl rfl (by omega)) rfl ?_))))
    refine ow_g (g_as rfl) rfl (ow_nil (tw_keep [(4, _), (5, _), (8, _), (9, _)] ⟨rfl, rfl, rfl, rfl, trivial⟩ ?_))
    refine tw_inv (Γ := Nat × (Nat → Int)) ⟨n + 1, _⟩ ⟨rfl, rfl, rfl, rfl, trivial⟩ (by (try dsimp only); omega) (⟨by omega, part_step hP (by have a := h6; unfold Eqn at a; rw [a, fold38_ge _ ‹_›]), hbx4, hbx5, hb7, hB⟩)
  ·
   refine tw_exit rfl ?_
   refine tw_seq (tw_region (ow_g (g_ldab (cs' := iv .i64 16 h) ag36 ty36 rfl hbx8 rfl rfl) rfl ?_))
   refine ow_d (d_call (vs := [_]) rfl (rcarry_any _ (fold_sml hM (fun j hj => hP.1 j (by omega))) _)) rfl ?_
   rintro _ w15 ⟨hh1, rfl, E1, k12⟩
   replace hbx4 := hbx4.keep0 k12
   replace hbx5 := hbx5.keep0 k12
   replace hbx8 := hbx8.keep0 k12
   replace hB := hB.trans k12
   refine ow_d (d_call (vs := [_]) rfl (rcarry_any _ (car_sml (fold38_in hM (fun j hj => hP.1 j (by omega))) E1).2 _)) rfl ?_
   rintro _ w16 ⟨hh2, rfl, E2, k13⟩
   replace hbx4 := hbx4.keep0 k13
   replace hbx5 := hbx5.keep0 k13
   replace hbx8 := hbx8.keep0 k13
   replace hB := hB.trans k13
   refine ow_d0 (d_stw (vs := iv .i64 16 hh2) ty36 rfl rfl rfl ivF_one hbx4 rfl) ?_
   rintro _ w17 ⟨hb9, k14, z19⟩
   replace hbx5 := hbx5.keep k14 (fun hm => absurd (List.mem_singleton.1 hm) (Ne.symm ne_b3_b4))
   replace hbx8 := hbx8.keep k14 (fun hm => absurd (List.mem_singleton.1 hm) (Ne.symm ne_b3_b5))
   replace hB := hB.new k14 (fun x hx => .inl ((List.mem_singleton.1 hx) ▸ ge_b3))
   clear z19
   refine ow_nil (tw_retc hfin Try.results48 rfl (run_loadAgg ag36 ty36 ‹_› rfl)  ?_)
   exact ⟨hh2, rfl, rn_mul hf hg hM (fun j hj => hP.1 j (by omega)) E1 E2, hB⟩
end Go.Proofs.Ytkngeapegpehpaa.W
namespace Go.Proofs.Ytkngeapegpehpaa.W
open Go Go.Eng Go.Byt
set_option linter.unusedVariables false
set_option linter.unusedSimpArgs false
open Go.Fld Go.Ed
theorem car2_sml {f g h : Nat → Int} {a : Fp} (hf : RN f a) (h1 : Car f g) (h2 : Car g h) : Sml h := by
  have b := rn_vN hf
  have c1 := car_can h1 b.1 b.2
  have b1 := can_vN c1
  exact can_sml (car_can h2 (by omega) (by omega))
set_option maxRecDepth 100000 in
set_option maxHeartbeats 1000000 in
theorem rbytes_any (f : Nat → Int) (a : Fp) (hf : RN f a) (w : World) : Rets Try.prog 46 [.agg (iv .i64 16 f).toArray] w (fun v w' => OwnB w' w.heap.size v (fpB a) ∧ Keep [] w w') := by
 have hB : Keep [] w w := Keep.refl _ _
 refine rets_of_tw Try.func46 rfl (by decide) Try.ntmps46 rfl (fun fin _ hfin => ?_)
 refine tw_seq (tw_region (ow_d (d_box (cs := iv .i64 16 f) rfl rfl) rfl ?_))
 rintro _ w1 ⟨b1, rfl, eb1, hb1, k1, z1⟩
 have ge_b1 : w.heap.size ≤ b1 := by have := hB.size; omega
 replace hB := hB.trans k1
 clear eb1 z1
 refine ow_g (g_as rfl) rfl (ow_nil (tw_seq (tw_region (ow_g (g_ldab (cs' := iv .i64 16 f) ag36 ty36 rfl hb1 rfl rfl) rfl ?_))))
 refine ow_d (d_call (vs := [_]) rfl (rcarry_any _ (rn_sm hf) _)) rfl ?_
 rintro _ w2 ⟨hh1, rfl, E1, k2⟩
 replace hb1 := hb1.keep0 k2
 replace hB := hB.trans k2
 refine ow_d (d_call (vs := [_]) rfl (rcarry_any _ (can_sml (car_can E1 (rn_vN hf).1 (rn_vN hf).2)) _)) rfl ?_
 rintro _ w3 ⟨hh2, rfl, E2, k3⟩
 replace hb1 := hb1.keep0 k3
 replace hB := hB.trans k3
 refine ow_d (d_call (vs := [_]) rfl (rcarry_any _ (car2_sml hf E1 E2) _)) rfl ?_
 rintro _ w4 ⟨hh3, rfl, E3, k4⟩
 replace hb1 := hb1.keep0 k4
 replace hB := hB.trans k4
 refine ow_d0 (d_stw (vs := iv .i64 16 hh3) ty36 rfl rfl rfl ivF_one hb1 rfl) ?_
 rintro _ w5 ⟨hb2, k5, z2⟩
 replace hB := hB.new k5 (fun x hx => .inl ((List.mem_singleton.1 hx) ▸ ge_b1))
 clear z2
 refine ow_nil (tw_seq (tw_seq (tw_region (ow_g (g_as rfl) rfl (ow_nil (tw_block ?_))))))
 obtain ⟨_, _, hcan, hval⟩ := car3_can hf E1 E2 E3
 refine tw_loop (Γ := Nat × (Nat → Int)) (fun ⟨k, n⟩ => [(1, .pointer (some ⟨b1, 0, none⟩)), (3, .int .i64 (k : Int))]) (fun ⟨k, n⟩ W => BytI a n k ∧ Bk W b1 36 (iv .i64 16 n) ∧ Keep [] w W) (fun ⟨k, n⟩ => 2 - k) ⟨0, _⟩ ⟨rfl, rfl, trivial⟩ (⟨bytI_start hcan hval, hb2, hB⟩) ?_
 rintro ⟨k, n⟩ w6 ⟨hI, hbx1, hB⟩
 refine tw_keep [(1, .pointer (some ⟨b1, 0, none⟩)), (3, .int .i64 (k : Int))] ⟨rfl, rfl, trivial⟩ ?_
 have hk2 := hI.1
 refine tw_seq (tw_seq (tw_region (ow_g (g_mv rfl) rfl (ow_g (g_lt rfl rfl) rfl ?_))))
 refine ow_nil (tw_if rfl (fun hc1 => ?_) (fun hc1 => ?_))
 ·
  refine tw_skip (tw_seq (tw_block (tw_seq (tw_region (ow_g (g_ldab (cs' := iv .i64 16 n) ag36 ty36 rfl hbx1 rfl rfl) rfl ?_)))))
  refine ow_d (d_alloc ty36) rfl ?_
  rintro _ w7 ⟨b2, rfl, eb2, hb3, k6, z3⟩
  have ge_b2 : w.heap.size ≤ b2 := by have := hB.size; omega
  have ne_b1_b2 : b1 ≠ b2 := by have := hbx1.lt; omega
  replace hbx1 := hbx1.keep0 k6
  replace hB := hB.trans k6
  clear eb2 z3
  replace hb3 : Bk w7 b2 36 (iv .i64 16 (fun _ => 0)) := by rw [iv, ivF_rep]; exact hb3
  refine ow_d0 (d_stw (vs := iv .i64 16 n) ty36 rfl rfl rfl ivF_one hb3 rfl) ?_
  rintro _ w8 ⟨hb4, k7, z4⟩
  replace hbx1 := hbx1.keep k7 (fun hm => absurd (List.mem_singleton.1 hm) ne_b1_b2)
  replace hB := hB.new k7 (fun x hx => .inl ((List.mem_singleton.1 hx) ▸ ge_b2))
  clear z4
  refine ow_nil (tw_seq (tw_region (ow_g (g_faE 0 Try.underlying36 rfl ty34 (by decide) rfl rfl) rfl ?_)))
  refine ow_g (g_ixaE 0 Try.underlying34 ty3 rfl rfl (by omega) (by omega)) rfl ?_
  refine ow_gx (e' := n 0) (lo := 0) (hi := 65535) (g_ldb sc3 rfl hb4 (iv_get (by decide))) (rfl) (hI.2.1 0 (by decide)) rfl (fun z5 h1 r1 => ?_)
  refine ow_gx (e' := z5 - 65517) (lo := (-65517)) (hi := 18) (g_subw rfl rfl) (wrap_fit (in_sub r1 (in_c 65517)) rfl) (In.wk (in_sub r1 (in_c 65517)) rfl) rfl (fun z6 h2 r2 => ?_)
  refine ow_g (g_faE 0 Try.underlying36 rfl ty34 (by decide) rfl rfl) rfl ?_
  refine ow_g (g_ixaE 0 Try.underlying34 ty3 rfl rfl (by omega) (by omega)) rfl ?_
  refine ow_d0 (d_stix (v := z6) ty3 rfl rfl hb4 (by omega)) ?_
  rintro _ w9 ⟨hb5, k8, z7⟩
  replace hbx1 := hbx1.keep k8 (fun hm => absurd (List.mem_singleton.1 hm) ne_b1_b2)
  replace hB := hB.new k8 (fun x hx => .inl ((List.mem_singleton.1 hx) ▸ ge_b2))
  clear z7
  refine ow_nil (tw_seq (tw_seq (tw_region (ow_g (g_as rfl) rfl (ow_nil (tw_block ?_))))))
  refine tw_loop (Γ := Nat × (Nat → Int)) (fun ⟨i, m⟩ => [(1, .pointer (some ⟨b1, 0, none⟩)), (4, .pointer (some ⟨b2, 0, none⟩)), (3, .int .i64 (k : Int)), (5, .int .i64 (i : Int))]) (fun ⟨i, m⟩ W => i ≤ 16 ∧ SubI n m i ∧ Bk W b1 36 (iv .i64 16 n) ∧ Bk W b2 36 (iv .i64 16 m) ∧ Keep [] w W) (fun ⟨i, m⟩ => 16 - i) ⟨1, _⟩ ⟨rfl, rfl, rfl, rfl, trivial⟩ (⟨by decide, sub_start hI.2.1 h1 h2, hbx1, hb5, hB⟩) ?_
  rintro ⟨i, m⟩ w10 ⟨hi, hS, hbx1, hbx4, hB⟩
  refine tw_keep [(1, .pointer (some ⟨b1, 0, none⟩)), (4, .pointer (some ⟨b2, 0, none⟩)), (3, .int .i64 (k : Int)), (5, .int .i64 (i : Int))] ⟨rfl, rfl, rfl, rfl, trivial⟩ ?_
  have hi1 := hS.1
  refine tw_seq (tw_seq (tw_region (ow_g (g_mv rfl) rfl (ow_g (g_lt rfl rfl) rfl ?_))))
  refine ow_nil (tw_if rfl (fun hc2 => ?_) (fun hc2 => ?_))
  ·
   refine tw_skip (tw_seq (tw_block (tw_seq (tw_region (ow_g (g_as rfl) rfl (ow_nil ?_))))))
   refine tw_seq (tw_seq (tw_region (ow_g (g_mv rfl) rfl (ow_g (g_eq rfl rfl) rfl ?_))))
   refine ow_nil (tw_if rfl (fun hc3 => ?_) (fun hc3 => ?_))
   ·
    refine tw_region (ow_g (g_as rfl) rfl (ow_nil (tw_seq (tw_region (ow_g (g_as rfl) rfl (ow_nil ?_))))))
    refine tw_seq (tw_seq (tw_region (ow_g (g_mv rfl) rfl (ow_g (g_sub rfl rfl (by omega)) rfl ?_))))
    refine ow_g (g_faE 0 Try.underlying36 rfl ty34 (by decide) rfl rfl) rfl ?_
    refine ow_g (g_ixaE (i - 1) Try.underlying34 ty3 rfl rfl (by omega) (by omega)) rfl ?_
    have hi16 : i < 16 := by omega
    refine ow_gx (e' := m (i - 1)) (lo := (-65536)) (hi := 65535) (g_ldb sc3 rfl hbx4 (iv_get (by omega))) (rfl) (hS.2.2.1) rfl (fun z8 h3 r3 => ?_)
    refine ow_g (g_lt rfl rfl) rfl ?_
    refine ow_nil (tw_if rfl (fun hc4 => ?_) (fun hc4 => ?_))
    ·
     refine tw_seq (tw_region (ow_g (g_as rfl) rfl (ow_nil (tw_keep [(1, _), (4, _), (3, _), (5, _), (6, _), (7, _)] ⟨rfl, rfl, rfl, rfl, rfl, rfl, trivial⟩ ?_))))
     refine tw_region (ow_g (g_mv rfl) rfl (ow_g (g_sub rfl rfl (by omega)) rfl ?_))
     refine ow_g (g_mv rfl) rfl (ow_g (g_sub rfl rfl (by omega)) rfl ?_)
     refine ow_g (g_faE 0 Try.underlying36 rfl ty34 (by decide) rfl rfl) rfl ?_
     refine ow_g (g_ixaE (i - 1) Try.underlying34 ty3 rfl rfl (by omega) (by omega)) rfl ?_
     refine ow_gx (e' := m (i - 1)) (lo := (-65536)) (hi := 65535) (g_ldb sc3 rfl hbx4 (iv_get (by omega))) (rfl) (hS.2.2.1) rfl (fun z9 h4 r4 => ?_)
     refine ow_gx (e' := z9 + 65536) (lo := 0) (hi := 131071) (g_addw rfl rfl) (wrap_fit (in_add r4 (in_c 65536)) rfl) (In.wk (in_add r4 (in_c 65536)) rfl) rfl (fun z10 h5 r5 => ?_)
     refine ow_g (g_faE 0 Try.underlying36 rfl ty34 (by decide) rfl rfl) rfl ?_
     refine ow_g (g_ixaE (i - 1) Try.underlying34 ty3 rfl rfl (by omega) (by omega)) rfl ?_
     refine ow_d0 (d_stix (v := z10) ty3 rfl rfl hbx4 (by omega)) ?_
     rintro _ w11 ⟨hb6, k9, z11⟩
     replace hbx1 := hbx1.keep k9 (fun hm => absurd (List.mem_singleton.1 hm) ne_b1_b2)
     replace hB := hB.new k9 (fun x hx => .inl ((List.mem_singleton.1 hx) ▸ ge_b2))
     clear z11
     refine ow_nil (tw_keep [(1, _), (4, _), (3, _), (5, _), (6, _), (7, _)] ⟨rfl, rfl, rfl, rfl, rfl, rfl, trivial⟩ ?_)
     refine tw_region (ow_g (g_mv rfl) rfl (ow_g (g_mv rfl) rfl (ow_g (g_faE 0 Try.underlying36 rfl ty34 (by decide) rfl rfl) rfl ?_)))
     refine ow_g (g_ixaE i Try.underlying34 ty3 rfl rfl (by omega) (by omega)) rfl ?_
     refine ow_gx (e' := m i) (lo := 0) (hi := 65535) (g_ldb sc3 rfl hb6 (iv_get hi16)) (upd_other _ _ (by omega)) ((by rw [hS.2.2.2.1 i (Nat.le_refl _)]; exact hI.2.1 i hi16)) rfl (fun z12 h6 r6 => ?_)
     refine ow_g (g_mv rfl) rfl (ow_gx (e' := z12 - 32767) (lo := (-32767)) (hi := 32768) (g_subw rfl rfl) (wrap_fit (in_sub r6 (in_c 32767)) rfl) (In.wk (in_sub r6 (in_c 32767)) rfl) rfl (fun z13 h7 r7 => ?_))
     refine ow_g (g_mv rfl) rfl (ow_gx (e' := z13 - 1) (lo := (-32768)) (hi := 32767) (g_subw rfl rfl) (wrap_fit (in_sub r7 (in_c 1)) rfl) (In.wk (in_sub r7 (in_c 1)) rfl) rfl (fun z14 h8 r8 => ?_))
     refine ow_g (g_faE 0 Try.underlying36 rfl ty34 (by decide) rfl rfl) rfl ?_
     refine ow_g (g_ixaE i Try.underlying34 ty3 rfl rfl (by omega) (by omega)) rfl ?_
     refine ow_d0 (d_stix (v := z14) ty3 rfl rfl hb6 (by omega)) ?_
     rintro _ w12 ⟨hb7, k10, z15⟩
     replace hbx1 := hbx1.keep k10 (fun hm => absurd (List.mem_singleton.1 hm) ne_b1_b2)
     replace hB := hB.new k10 (fun x hx => .inl ((List.mem_singleton.1 hx) ▸ ge_b2))
     clear z15
     refine ow_nil (tw_keep [(1, _), (4, _), (3, _), (5, _)] ⟨rfl, rfl, rfl, rfl, trivial⟩ ?_)
     refine tw_b (tw_region (ow_g (g_mv rfl) rfl (ow_g (g_add rfl rfl (by omega)) rfl ?_)))
     refine ow_g (g_as rfl) rfl (ow_nil (tw_inv (Γ := Nat × (Nat → Int)) ⟨i + 1, _⟩ ⟨rfl, rfl, rfl, rfl, trivial⟩ (by (try dsimp only); omega) (⟨by omega, sub_yes hI.2.1 hS hi16 h3 hc4 (by have a := h5; have b := h4; have c := h3; unfold Eqn at *; rw [a, b, ← c]) h6 (by have a := h7; rw [PL_end hc3]; exact a) h8, hbx1, hb7, hB⟩)))
    ·
     refine tw_skip (tw_region (ow_g (g_mv rfl) rfl (ow_g (g_mv rfl) rfl (ow_g (g_faE 0 Try.underlying36 rfl ty34 (by decide) rfl rfl) rfl ?_))))
     refine ow_g (g_ixaE i Try.underlying34 ty3 rfl rfl (by omega) (by omega)) rfl ?_
     refine ow_gx (e' := m i) (lo := 0) (hi := 65535) (g_ldb sc3 rfl hbx4 (iv_get hi16)) (rfl) ((by rw [hS.2.2.2.1 i (Nat.le_refl _)]; exact hI.2.1 i hi16)) rfl (fun z16 h9 r9 => ?_)
     refine ow_g (g_mv rfl) rfl (ow_gx (e' := z16 - 32767) (lo := (-32767)) (hi := 32768) (g_subw rfl rfl) (wrap_fit (in_sub r9 (in_c 32767)) rfl) (In.wk (in_sub r9 (in_c 32767)) rfl) rfl (fun z17 h10 r10 => ?_))
     refine ow_g (g_mv rfl) rfl (ow_gx (e' := z17 - 0) (lo := (-32767)) (hi := 32768) (g_subw rfl rfl) (wrap_fit (in_sub r10 (in_c 0)) rfl) (In.wk (in_sub r10 (in_c 0)) rfl) rfl (fun z18 h11 r11 => ?_))
     refine ow_g (g_faE 0 Try.underlying36 rfl ty34 (by decide) rfl rfl) rfl ?_
     refine ow_g (g_ixaE i Try.underlying34 ty3 rfl rfl (by omega) (by omega)) rfl ?_
     refine ow_d0 (d_stix (v := z18) ty3 rfl rfl hbx4 (by omega)) ?_
     rintro _ w13 ⟨hb8, k11, z19⟩
     replace hbx1 := hbx1.keep k11 (fun hm => absurd (List.mem_singleton.1 hm) ne_b1_b2)
     replace hB := hB.new k11 (fun x hx => .inl ((List.mem_singleton.1 hx) ▸ ge_b2))
     clear z19
     refine ow_nil (tw_keep [(1, _), (4, _), (3, _), (5, _)] ⟨rfl, rfl, rfl, rfl, trivial⟩ ?_)
     refine tw_b (tw_region (ow_g (g_mv rfl) rfl (ow_g (g_add rfl rfl (by omega)) rfl ?_)))
     refine ow_g (g_as rfl) rfl (ow_nil (tw_inv (Γ := Nat × (Nat → Int)) ⟨i + 1, _⟩ ⟨rfl, rfl, rfl, rfl, trivial⟩ (by (try dsimp only); omega) (⟨by omega, sub_no hI.2.1 hS hi16 h3 hc4 h9 (by have a := h10; rw [PL_end hc3]; exact a) h11, hbx1, hb8, hB⟩)))
   ·
    refine tw_skip (tw_seq (tw_region (ow_g (g_as rfl) rfl (ow_nil (tw_seq (tw_seq ?_))))))
    refine tw_region (ow_g (g_mv rfl) rfl (ow_g (g_sub rfl rfl (by omega)) rfl ?_))
    refine ow_g (g_faE 0 Try.underlying36 rfl ty34 (by decide) rfl rfl) rfl ?_
    refine ow_g (g_ixaE (i - 1) Try.underlying34 ty3 rfl rfl (by omega) (by omega)) rfl ?_
    have hi16 : i < 16 := by omega
    refine ow_gx (e' := m (i - 1)) (lo := (-65536)) (hi := 65535) (g_ldb sc3 rfl hbx4 (iv_get (by omega))) (rfl) (hS.2.2.1) rfl (fun z20 h12 r12 => ?_)
    refine ow_g (g_lt rfl rfl) rfl ?_
    refine ow_nil (tw_if rfl (fun hc5 => ?_) (fun hc5 => ?_))
    ·
     refine tw_seq (tw_region (ow_g (g_as rfl) rfl (ow_nil (tw_keep [(1, _), (4, _), (3, _), (5, _), (6, _), (7, _)] ⟨rfl, rfl, rfl, rfl, rfl, rfl, trivial⟩ ?_))))
     refine tw_region (ow_g (g_mv rfl) rfl (ow_g (g_sub rfl rfl (by omega)) rfl ?_))
     refine ow_g (g_mv rfl) rfl (ow_g (g_sub rfl rfl (by omega)) rfl ?_)
     refine ow_g (g_faE 0 Try.underlying36 rfl ty34 (by decide) rfl rfl) rfl ?_
     refine ow_g (g_ixaE (i - 1) Try.underlying34 ty3 rfl rfl (by omega) (by omega)) rfl ?_
     refine ow_gx (e' := m (i - 1)) (lo := (-65536)) (hi := 65535) (g_ldb sc3 rfl hbx4 (iv_get (by omega))) (rfl) (hS.2.2.1) rfl (fun z21 h13 r13 => ?_)
     refine ow_gx (e' := z21 + 65536) (lo := 0) (hi := 131071) (g_addw rfl rfl) (wrap_fit (in_add r13 (in_c 65536)) rfl) (In.wk (in_add r13 (in_c 65536)) rfl) rfl (fun z22 h14 r14 => ?_)
     refine ow_g (g_faE 0 Try.underlying36 rfl ty34 (by decide) rfl rfl) rfl ?_
     refine ow_g (g_ixaE (i - 1) Try.underlying34 ty3 rfl rfl (by omega) (by omega)) rfl ?_
     refine ow_d0 (d_stix (v := z22) ty3 rfl rfl hbx4 (by omega)) ?_
     rintro _ w14 ⟨hb9, k12, z23⟩
     replace hbx1 := hbx1.keep k12 (fun hm => absurd (List.mem_singleton.1 hm) ne_b1_b2)
     replace hB := hB.new k12 (fun x hx => .inl ((List.mem_singleton.1 hx) ▸ ge_b2))
     clear z23
     refine ow_nil (tw_keep [(1, _), (4, _), (3, _), (5, _), (6, _), (7, _)] ⟨rfl, rfl, rfl, rfl, rfl, rfl, trivial⟩ ?_)
     refine tw_region (ow_g (g_mv rfl) rfl (ow_g (g_mv rfl) rfl (ow_g (g_faE 0 Try.underlying36 rfl ty34 (by decide) rfl rfl) rfl ?_)))
     refine ow_g (g_ixaE i Try.underlying34 ty3 rfl rfl (by omega) (by omega)) rfl ?_
     refine ow_gx (e' := m i) (lo := 0) (hi := 65535) (g_ldb sc3 rfl hb9 (iv_get hi16)) (upd_other _ _ (by omega)) ((by rw [hS.2.2.2.1 i (Nat.le_refl _)]; exact hI.2.1 i hi16)) rfl (fun z24 h15 r15 => ?_)
     refine ow_g (g_mv rfl) rfl (ow_gx (e' := z24 - 65535) (lo := (-65535)) (hi := 0) (g_subw rfl rfl) (wrap_fit (in_sub r15 (in_c 65535)) rfl) (In.wk (in_sub r15 (in_c 65535)) rfl) rfl (fun z25 h16 r16 => ?_))
     refine ow_g (g_mv rfl) rfl (ow_gx (e' := z25 - 1) (lo := (-65536)) (hi := (-1)) (g_subw rfl rfl) (wrap_fit (in_sub r16 (in_c 1)) rfl) (In.wk (in_sub r16 (in_c 1)) rfl) rfl (fun z26 h17 r17 => ?_))
     refine ow_g (g_faE 0 Try.underlying36 rfl ty34 (by decide) rfl rfl) rfl ?_
     refine ow_g (g_ixaE i Try.underlying34 ty3 rfl rfl (by omega) (by omega)) rfl ?_
     refine ow_d0 (d_stix (v := z26) ty3 rfl rfl hb9 (by omega)) ?_
     rintro _ w15 ⟨hb10, k13, z27⟩
     replace hbx1 := hbx1.keep k13 (fun hm => absurd (List.mem_singleton.1 hm) ne_b1_b2)
     replace hB := hB.new k13 (fun x hx => .inl ((List.mem_singleton.1 hx) ▸ ge_b2))
     clear z27
     refine ow_nil (tw_keep [(1, _), (4, _), (3, _), (5, _)] ⟨rfl, rfl, rfl, rfl, trivial⟩ ?_)
     refine tw_b (tw_region (ow_g (g_mv rfl) rfl (ow_g (g_add rfl rfl (by omega)) rfl ?_)))
     refine ow_g (g_as rfl) rfl (ow_nil (tw_inv (Γ := Nat × (Nat → Int)) ⟨i + 1, _⟩ ⟨rfl, rfl, rfl, rfl, trivial⟩ (by (try dsimp only); omega) (⟨by omega, sub_yes hI.2.1 hS hi16 h12 hc5 (by have a := h14; have b := h13; have c := h12; unfold Eqn at *; rw [a, b, ← c]) h15 (by have a := h16; rw [PL_mid hS.1 hc3]; exact a) h17, hbx1, hb10, hB⟩)))
    ·
     refine tw_skip (tw_region (ow_g (g_mv rfl) rfl (ow_g (g_mv rfl) rfl (ow_g (g_faE 0 Try.underlying36 rfl ty34 (by decide) rfl rfl) rfl ?_))))
     refine ow_g (g_ixaE i Try.underlying34 ty3 rfl rfl (by omega) (by omega)) rfl ?_
     refine ow_gx (e' := m i) (lo := 0) (hi := 65535) (g_ldb sc3 rfl hbx4 (iv_get hi16)) (rfl) ((by rw [hS.2.2.2.1 i (Nat.le_refl _)]; exact hI.2.1 i hi16)) rfl (fun z28 h18 r18 => ?_)
     refine ow_g (g_mv rfl) rfl (ow_gx (e' := z28 - 65535) (lo := (-65535)) (hi := 0) (g_subw rfl rfl) (wrap_fit (in_sub r18 (in_c 65535)) rfl) (In.wk (in_sub r18 (in_c 65535)) rfl) rfl (fun z29 h19 r19 => ?_))
     refine ow_g (g_mv rfl) rfl (ow_gx (e' := z29 - 0) (lo := (-65535)) (hi := 0) (g_subw rfl rfl) (wrap_fit (in_sub r19 (in_c 0)) rfl) (In.wk (in_sub r19 (in_c 0)) rfl) rfl (fun z30 h20 r20 => ?_))
     refine ow_g (g_faE 0 Try.underlying36 rfl ty34 (by decide) rfl rfl) rfl ?_
     refine ow_g (g_ixaE i Try.underlying34 ty3 rfl rfl (by omega) (by omega)) rfl ?_
     refine ow_d0 (d_stix (v := z30) ty3 rfl rfl hbx4 (by omega)) ?_
     rintro _ w16 ⟨hb11, k14, z31⟩
     replace hbx1 := hbx1.keep k14 (fun hm => absurd (List.mem_singleton.1 hm) ne_b1_b2)
     replace hB := hB.new k14 (fun x hx => .inl ((List.mem_singleton.1 hx) ▸ ge_b2))
     clear z31
     refine ow_nil (tw_keep [(1, _), (4, _), (3, _), (5, _)] ⟨rfl, rfl, rfl, rfl, trivial⟩ ?_)
     refine tw_b (tw_region (ow_g (g_mv rfl) rfl (ow_g (g_add rfl rfl (by omega)) rfl ?_)))
     refine ow_g (g_as rfl) rfl (ow_nil (tw_inv (Γ := Nat × (Nat → Int)) ⟨i + 1, _⟩ ⟨rfl, rfl, rfl, rfl, trivial⟩ (by (try dsimp only); omega) (⟨by omega, sub_no hI.2.1 hS hi16 h12 hc5 h18 (by have a := h19; rw [PL_mid hS.1 hc3]; exact a) h20, hbx1, hb11, hB⟩)))
  ·
   refine tw_exit rfl ?_
   refine tw_seq (tw_region (ow_g (g_faE 0 Try.underlying36 rfl ty34 (by decide) rfl rfl) rfl ?_))
   refine ow_g (g_ixaE 15 Try.underlying34 ty3 rfl rfl (by omega) (by omega)) rfl ?_
   refine ow_gx (e' := m 15) (lo := (-65536)) (hi := 65535) (g_ldb sc3 rfl hbx4 (iv_get (by decide))) (rfl) ((by have h := hS.2.2.1; rw [show i = 16 by omega] at h; exact h)) rfl (fun z32 h21 r21 => ?_)
   refine ow_g (g_ge rfl rfl) rfl ?_
   refine ow_nil (tw_if rfl (fun hc6 => ?_) (fun hc6 => ?_))
   ·
    refine tw_region (ow_g (g_ldab (cs' := iv .i64 16 m) ag36 ty36 rfl hbx4 rfl rfl) rfl ?_)
    refine ow_d0 (d_stw (vs := iv .i64 16 m) ty36 rfl rfl rfl ivF_one hbx1 rfl) ?_
    rintro _ w17 ⟨hb12, k15, z33⟩
    replace hbx4 := hbx4.keep k15 (fun hm => absurd (List.mem_singleton.1 hm) (Ne.symm ne_b1_b2))
    replace hB := hB.new k15 (fun x hx => .inl ((List.mem_singleton.1 hx) ▸ ge_b1))
    clear z33
    refine ow_nil (tw_b (tw_region (ow_g (g_mv rfl) rfl (ow_g (g_add rfl rfl (by omega)) rfl ?_))))
    refine ow_g (g_as rfl) rfl (ow_nil (tw_keep [(1, _), (3, _)] ⟨rfl, rfl, trivial⟩ ?_))
    refine tw_inv (Γ := Nat × (Nat → Int)) ⟨k + 1, _⟩ ⟨rfl, rfl, trivial⟩ (by (try dsimp only); omega) (⟨bytI_yes hI (by omega) hS (by omega) h21 ‹_›, hb12, hB⟩)
   ·
    refine tw_skip (tw_b (tw_region (ow_g (g_mv rfl) rfl (ow_g (g_add rfl rfl (by omega)) rfl ?_))))
    refine ow_g (g_as rfl) rfl (ow_nil (tw_keep [(1, _), (3, _)] ⟨rfl, rfl, trivial⟩ ?_))
    refine tw_inv (Γ := Nat × (Nat → Int)) ⟨k + 1, _⟩ ⟨rfl, rfl, trivial⟩ (by (try dsimp only); omega) (⟨bytI_no hI (by omega) hS (by omega) h21 ‹_›, hbx1, hB⟩)
 ·
  refine tw_exit rfl ?_
  refine tw_seq (tw_region (ow_g (g_as rfl) rfl (ow_nil (tw_seq (tw_seq (tw_region ?_))))))
  refine ow_g (g_as rfl) rfl (ow_nil (tw_block (tw_loop (Γ := Nat × Value) (fun ⟨i, v⟩ => [(1, .pointer (some ⟨b1, 0, none⟩)), (8, v), (9, .int .i64 (i : Int))]) (fun ⟨i, v⟩ W => i ≤ 16 ∧ Own W w.heap.size 5 1 v (2 * i) (bv (limbB n i)) ∧ (∀ x, x ∈ vblk v → x ≠ b1) ∧ Bk W b1 36 (iv .i64 16 n) ∧ Keep [] w W) (fun ⟨i, v⟩ => 16 - i) ⟨0, .slice none 0 0⟩ ⟨rfl, rfl, rfl, trivial⟩ (⟨by decide, own_nil _ _ _ _, (fun x hx => by cases hx), hbx1, hB⟩) ?_)))
  rintro ⟨i, v⟩ w18 ⟨hi, ox, hsep, hbx1, hB⟩
  refine tw_keep [(1, .pointer (some ⟨b1, 0, none⟩)), (8, v), (9, .int .i64 (i : Int))] ⟨rfl, rfl, rfl, trivial⟩ ?_
  have u_ox := ox.blk
  refine tw_seq (tw_seq (tw_region (ow_g (g_mv rfl) rfl (ow_g (g_lt rfl rfl) rfl ?_))))
  refine ow_nil (tw_if rfl (fun hc7 => ?_) (fun hc7 => ?_))
  ·
   refine tw_skip (tw_seq (tw_block (tw_planA 13 [0, 1, 2, 3, 4, 5, 6, 7, 8, 9, 10, 11, 12] [12] [] [] mixed [(8, _), (9, _), (1, _)] ⟨rfl, rfl, rfl, trivial⟩ (by decide +kernel) (by decide) (by decide) ?_ (fun x hx => by cases hx) rfl (fun w19 k16 => ?_))))
   · intro q hq; cases hq
   replace hbx1 := hbx1.keep0 k16
   replace ox := ox.keep0 k16
   replace hB := hB.trans k16
   refine pa_g [(8, _)] rfl rfl ⟨rfl, trivial⟩ rfl (fun W' kk => g_mv rfl) ?_
   refine pa_g [(9, _)] rfl rfl ⟨rfl, trivial⟩ rfl (fun W' kk => g_mv rfl) ?_
   refine pa_g [(1, _)] rfl rfl ⟨rfl, trivial⟩ rfl (fun W' kk => g_faE 0 Try.underlying36 rfl ty34 (by decide) rfl rfl) ?_
   refine pa_g [(68, _), (69, _)] rfl rfl ⟨rfl, rfl, trivial⟩ rfl (fun W' kk => g_ixaE i Try.underlying34 ty3 rfl rfl (by omega) (by omega)) ?_
   have hi16 : i < 16 := by omega
   refine pa_gx (e' := n i) (lo := 0) (hi := 65535) [(70, _)] rfl rfl ⟨rfl, trivial⟩ rfl (fun W' kk => g_ldb sc3 rfl (Bk.keep0 hbx1 kk) (iv_get hi16)) (rfl) (hI.2.1 i hi16) (fun z34 h22 r22 => ?_)
   refine pa_gx (e' := z34 % 256) (lo := 0) (hi := 255) [(71, _)] rfl rfl ⟨rfl, trivial⟩ rfl (fun W' kk => g_cv (by rw [Try.underlying3]; rfl) Try.underlying5 rfl) (wrap_uns rfl _) (In.wk (in_mod _ (by decide)) rfl) (fun z35 h23 r23 => ?_)
   refine pa_g [(9, _)] rfl rfl ⟨rfl, trivial⟩ rfl (fun W' kk => g_mv rfl) ?_
   refine pa_g [(1, _)] rfl rfl ⟨rfl, trivial⟩ rfl (fun W' kk => g_faE 0 Try.underlying36 rfl ty34 (by decide) rfl rfl) ?_
   refine pa_g [(73, _), (74, _)] rfl rfl ⟨rfl, rfl, trivial⟩ rfl (fun W' kk => g_ixaE i Try.underlying34 ty3 rfl rfl (by omega) (by omega)) ?_
   refine pa_gx (e' := n i) (lo := 0) (hi := 65535) [(75, _)] rfl rfl ⟨rfl, trivial⟩ rfl (fun W' kk => g_ldb sc3 rfl (Bk.keep0 hbx1 kk) (iv_get hi16)) (rfl) (hI.2.1 i hi16) (fun z36 h24 r24 => ?_)
   refine pa_gx (e' := z36 / 256) (lo := 0) (hi := 255) [(76, _)] rfl rfl ⟨rfl, trivial⟩ rfl (fun W' kk => g_shrp (m := 256) rfl rfl (by decide) rfl) (rfl) (In.wk (in_div r24 (by decide)) rfl) (fun z37 h25 r25 => ?_)
   refine pa_gx (e' := z37) (lo := 0) (hi := 255) [(77, _)] rfl rfl ⟨rfl, trivial⟩ rfl (fun W' kk => g_cv (by rw [Try.underlying3]; rfl) Try.underlying5 rfl) (wrap_fit r25 rfl) (r25) (fun z38 h26 r26 => ?_)
   refine pa_d [(72, _), (78, _)] rfl rfl ⟨rfl, rfl, trivial⟩ rfl (fun w21 k18 => ?_)
   replace hbx1 := hbx1.keep0 k18
   replace ox := ox.keep0 k18
   replace hB := hB.trans k18
   refine (d_bs (m := 2) (xs := [.tmp 72, .tmp 78]) (vs := [_, _]) Try.underlying22 ty5 (by decide) rfl rfl rfl (by simp only [List.forall_mem_cons]; exact ⟨rfl, rfl, fun v hv => by cases hv⟩) (by decide)).mono ?_
   rintro v1 w20 ⟨o1, nn1, lb1, k17, z39⟩
   refine ⟨k17, (fun x hx => ⟨.inr (o1.blk x (o1.rd.cblk ▸ hx)).1, (o1.blk x (o1.rd.cblk ▸ hx)).2⟩), ?_⟩
   have gl_o1 := hB.size
   have sb_b1_o1 := fun x hx => (show x ≠ b1 from by have h1 := (o1.blk x hx).1; have h2 := hbx1.lt; omega)
   replace hbx1 := hbx1.keep0 k17
   replace ox := ox.keep0 k17
   replace hB := hB.trans k17
   have u_o1 := o1.blk
   refine pa_nil (fun w22 k19 => ?_)
   replace hbx1 := hbx1.keep0 k19
   replace ox := ox.keep0 k19
   replace o1 := o1.keep0 k19
   replace hB := hB.trans k19
   refine fina_nil ?_
   replace o1 : Own w22 _ 5 1 v1 2 [.int .u8 z35, .int .u8 z38] := o1
   have hlt := hbx1.lt
   refine ow_d (d_app Try.underlying22 ty5 (by decide) rfl rfl ox rfl o1.rd (by simp only [List.forall_mem_cons]; exact ⟨rfl, rfl, fun v hv => by cases hv⟩) ⟨by omega, by omega⟩ hB.size) rfl ?_
   rintro v9 w9 ⟨ox2, k9, lb9, _⟩
   rw [limb_step hI.2.1 hi16 h22 h24 h23 h25 h26] at ox2
   have hsep2 : ∀ x, x ∈ vblk v9 → x ≠ b1 := fun x hx => (lb9 x hx).elim (fun h => hsep x h) (fun h => by omega)
   replace hB := hB.new k9 (fun x hx => .inl (ox.blk x hx).1)
   replace hbx1 := hbx1.keep k9 (fun hm => hsep _ hm rfl)
   clear o1 ox
   refine ow_g (g_as rfl) rfl (ow_nil (tw_keep [(8, _), (9, _), (1, _)] ⟨rfl, rfl, rfl, trivial⟩ ?_))
   refine tw_b (tw_region (ow_g (g_mv rfl) rfl (ow_g (g_add rfl rfl (by omega)) rfl ?_)))
   refine ow_g (g_as rfl) rfl (ow_nil (tw_inv (Γ := Nat × Value) ⟨i + 1, v9⟩ ⟨rfl, rfl, rfl, trivial⟩ (by (try dsimp only); omega) (⟨by omega, ox2, hsep2, hbx1, hB⟩)))
  ·
   refine tw_exit rfl ?_
   refine tw_seq (tw_region (ow_g (g_mv rfl) rfl (ow_g (g_as rfl) rfl (ow_nil (tw_ret1 hfin Try.results46 rfl ?_)))))
   have e : limbB n i = fpB a := limb_all hI (by omega) (by omega)
   have l : 2 * i = (fpB a).length := by rw [fpB_length]; omega
   rw [e, l] at ox
   exact ⟨ox, hB⟩
end Go.Proofs.Ytkngeapegpehpaa.W
namespace Go.Eng
open Go Go.IntWalk
end Go.Eng
namespace Go.Proofs.Ytkngeapegpehpaa.W
open Go Go.Eng Go.Byt
set_option linter.unusedVariables false
set_option linter.unusedSimpArgs false
open Go.Fld Go.Ed
theorem add64_run (x y c : Int) (hx : In x 0 18446744073709551615) (hy : In y 0 18446744073709551615) (hc : In c 0 1) (w : World) :
    (callFunc 62 #[.int .u64 x, .int .u64 y, .int .u64 c]).run Try.prog w = .ok (.value (.tuple #[.int .u64 ((x + y + c) % 18446744073709551616), .int .u64 ((x + y + c) / 18446744073709551616)])) w := by
  rw [run_callFunc_extern Try.func62 (by kernel_rfl) (by kernel_rfl) (by kernel_rfl) (e := add64Entry) (by kernel_rfl), run_add64 x y c hx.1 hy.1 hc.1 hc.2]
  simp only [Result.andThen]
theorem mul_split {x y x0 x1 y0 y1 : Int} (h0 : x0 = x % 4294967296) (h1 : x1 = x / 4294967296) (h2 : y0 = y % 4294967296) (h3 : y1 = y / 4294967296) : x * y = x1 * y1 * 18446744073709551616 + (x1 * y0 + x0 * y1) * 4294967296 + x0 * y0 := by
  have e1 : x = x1 * 4294967296 + x0 := by omega
  have e2 : y = y1 * 4294967296 + y0 := by omega
  rw [e1, e2]; grind -lia -linarith
set_option maxRecDepth 100000 in
theorem mul64_any (x y : Int) (hx : In x 0 18446744073709551615) (hy : In y 0 18446744073709551615) (w : World) : Rets Try.prog 61 [.int .u64 x, .int .u64 y] w (fun v w' => v = .tuple #[.int .u64 (x * y / 18446744073709551616), .int .u64 (x * y % 18446744073709551616)] ∧ w = w') := by
 refine rets_of_tw Try.func61 rfl (by decide) Try.ntmps61 rfl (fun fin _ hfin => ?_)
 refine tw_seq (tw_region (ow_g (g_as rfl) rfl (ow_g (g_as rfl) rfl (ow_nil (tw_seq (tw_region ?_))))))
 refine ow_g (g_mv rfl) rfl (ow_gx (e' := x % 4294967296) (lo := 0) (hi := 4294967295) (g_and rfl rfl) (and_mod 32 hx rfl rfl rfl rfl rfl rfl) (In.wk (in_mod _ (by decide)) rfl) rfl (fun z1 h1 r1 => ?_))
 refine ow_g (g_as rfl) rfl (ow_nil (tw_seq (tw_region (ow_g (g_mv rfl) rfl (ow_gx (e' := x / 4294967296) (lo := 0) (hi := 4294967295) (g_shrp (m := 4294967296) rfl rfl (by decide) rfl) (rfl) (In.wk (in_div hx (by decide)) rfl) rfl (fun z2 h2 r2 => ?_))))))
 refine ow_g (g_as rfl) rfl (ow_nil (tw_seq (tw_region (ow_g (g_mv rfl) rfl (ow_gx (e' := y % 4294967296) (lo := 0) (hi := 4294967295) (g_and rfl rfl) (and_mod 32 hy rfl rfl rfl rfl rfl rfl) (In.wk (in_mod _ (by decide)) rfl) rfl (fun z3 h3 r3 => ?_))))))
 refine ow_g (g_as rfl) rfl (ow_nil (tw_seq (tw_region (ow_g (g_mv rfl) rfl (ow_gx (e' := y / 4294967296) (lo := 0) (hi := 4294967295) (g_shrp (m := 4294967296) rfl rfl (by decide) rfl) (rfl) (In.wk (in_div hy (by decide)) rfl) rfl (fun z4 h4 r4 => ?_))))))
 refine ow_g (g_as rfl) rfl (ow_nil (tw_seq (tw_region (ow_g (g_mv rfl) rfl (ow_g (g_mv rfl) rfl (ow_gx (e' := z1 * z3) (lo := 0) (hi := 18446744065119617025) (g_mulw rfl rfl) (wrap_fit (in_mul r1 r3 (by decide) (by decide)) rfl) (In.wk (in_mul r1 r3 (by decide) (by decide)) rfl) rfl (fun z5 h5 r5 => ?_)))))))
 refine ow_g (g_as rfl) rfl (ow_nil (tw_seq (tw_region (ow_g (g_mv rfl) rfl (ow_g (g_mv rfl) rfl (ow_gx (e' := z2 * z3) (lo := 0) (hi := 18446744065119617025) (g_mulw rfl rfl) (wrap_fit (in_mul r2 r3 (by decide) (by decide)) rfl) (In.wk (in_mul r2 r3 (by decide) (by decide)) rfl) rfl (fun z6 h6 r6 => ?_)))))))
 refine ow_g (g_mv rfl) rfl (ow_gx (e' := z5 / 4294967296) (lo := 0) (hi := 4294967294) (g_shrp (m := 4294967296) rfl rfl (by decide) rfl) (rfl) (In.wk (in_div r5 (by decide)) rfl) rfl (fun z7 h7 r7 => ?_))
 refine ow_gx (e' := z6 + z7) (lo := 0) (hi := 18446744069414584319) (g_addw rfl rfl) (wrap_fit (in_add r6 r7) rfl) (In.wk (in_add r6 r7) rfl) rfl (fun z8 h8 r8 => ?_)
 refine ow_g (g_as rfl) rfl (ow_nil (tw_seq (tw_region (ow_g (g_mv rfl) rfl (ow_gx (e' := z8 % 4294967296) (lo := 0) (hi := 4294967295) (g_and rfl rfl) (and_mod 32 r8 rfl rfl rfl rfl rfl rfl) (In.wk (in_mod _ (by decide)) rfl) rfl (fun z9 h9 r9 => ?_))))))
 refine ow_g (g_as rfl) rfl (ow_nil (tw_seq (tw_region (ow_g (g_mv rfl) rfl (ow_gx (e' := z8 / 4294967296) (lo := 0) (hi := 4294967294) (g_shrp (m := 4294967296) rfl rfl (by decide) rfl) (rfl) (In.wk (in_div r8 (by decide)) rfl) rfl (fun z10 h10 r10 => ?_))))))
 refine ow_g (g_as rfl) rfl (ow_nil (tw_seq (tw_region (ow_g (g_mv rfl) rfl (ow_g (g_mv rfl) rfl (ow_g (g_mv rfl) rfl ?_))))))
 refine ow_gx (e' := z1 * z4) (lo := 0) (hi := 18446744065119617025) (g_mulw rfl rfl) (wrap_fit (in_mul r1 r4 (by decide) (by decide)) rfl) (In.wk (in_mul r1 r4 (by decide) (by decide)) rfl) rfl (fun z11 h11 r11 => ?_)
 refine ow_gx (e' := z9 + z11) (lo := 0) (hi := 18446744069414584320) (g_addw rfl rfl) (wrap_fit (in_add r9 r11) rfl) (In.wk (in_add r9 r11) rfl) rfl (fun z12 h12 r12 => ?_)
 refine ow_g (g_as rfl) rfl (ow_nil (tw_seq (tw_region (ow_g (g_mv rfl) rfl (ow_g (g_mv rfl) rfl (ow_gx (e' := z2 * z4) (lo := 0) (hi := 18446744065119617025) (g_mulw rfl rfl) (wrap_fit (in_mul r2 r4 (by decide) (by decide)) rfl) (In.wk (in_mul r2 r4 (by decide) (by decide)) rfl) rfl (fun z13 h13 r13 => ?_)))))))
 refine ow_g (g_mv rfl) rfl (ow_gx (e' := z13 + z10) (lo := 0) (hi := 18446744069414584319) (g_addw rfl rfl) (wrap_fit (in_add r13 r10) rfl) (In.wk (in_add r13 r10) rfl) rfl (fun z14 h14 r14 => ?_))
 refine ow_g (g_mv rfl) rfl (ow_gx (e' := z12 / 4294967296) (lo := 0) (hi := 4294967295) (g_shrp (m := 4294967296) rfl rfl (by decide) rfl) (rfl) (In.wk (in_div r12 (by decide)) rfl) rfl (fun z15 h15 r15 => ?_))
 refine ow_gx (e' := z14 + z15) (lo := 0) (hi := 18446744073709551614) (g_addw rfl rfl) (wrap_fit (in_add r14 r15) rfl) (In.wk (in_add r14 r15) rfl) rfl (fun z16 h16 r16 => ?_)
 refine ow_g (g_as rfl) rfl (ow_nil (tw_seq (tw_region (ow_g (g_mv rfl) rfl (ow_g (g_mv rfl) rfl (ow_gx (e' := (x * y) % 18446744073709551616) (lo := 0) (hi := 18446744073709551615) (g_mulw rfl rfl) (wrap_uns rfl _) (In.wk (in_mod _ (by decide)) rfl) rfl (fun z17 h17 r17 => ?_)))))))
 refine ow_g (g_as rfl) rfl (ow_nil (tw_ret2 hfin Try.results61 rfl rfl ?_))
 have hs := mul_split (x := x) (y := y) h1 h2 h3 h4
 simp only [Eqn, In] at h1 r1 h2 r2 h3 r3 h4 r4 h5 r5 h6 r6 h7 r7 h8 r8 h9 r9 h10 r10 h11 r11 h12 r12 h13 r13 h14 r14 h15 r15 h16 r16 h17 r17 hx hy
 exact ⟨by show Value.tuple #[.int .u64 z16, .int .u64 z17] = _; rw [show z16 = x * y / 18446744073709551616 from by omega, show z17 = x * y % 18446744073709551616 from by omega], rfl⟩
set_option maxRecDepth 100000 in
theorem carry_any (f : Nat → Int) (hf0 : In (f 0) 0 9223372036854775807) (hf1 : In (f 1) 0 9223372036854775807) (hf2 : In (f 2) 0 9223372036854775807) (hf3 : In (f 3) 0 9223372036854775807) (hf4 : In (f 4) 0 9223372036854775807) (w : World) : Rets Try.prog 80 [.agg (iv .u64 5 f).toArray] w (fun v w' => ∃ h c0 c1 c2 c3 c4, v = .agg (iv .u64 5 h).toArray ∧ c0 = f 0 / 2251799813685248 ∧ c1 = (f 1 + c0) / 2251799813685248 ∧ c2 = (f 2 + c1) / 2251799813685248 ∧ c3 = (f 3 + c2) / 2251799813685248 ∧ c4 = (f 4 + c3) / 2251799813685248 ∧ h 0 = f 0 % 2251799813685248 + 19 * c4 ∧ h 1 = (f 1 + c0) % 2251799813685248 ∧ h 2 = (f 2 + c1) % 2251799813685248 ∧ h 3 = (f 3 + c2) % 2251799813685248 ∧ h 4 = (f 4 + c3) % 2251799813685248 ∧ val5 h + c4 * 57896044618658097711785492504343953926634992332820282019728792003956564819949 = val5 f ∧ Keep [] w w') := by
 have hB : Keep [] w w := Keep.refl _ _
 refine rets_of_tw Try.func80 rfl (by decide) Try.ntmps80 rfl (fun fin _ hfin => ?_)
 refine tw_seq (tw_region (ow_d (d_box (cs := [.int .u64 (f 0), .int .u64 (f 1), .int .u64 (f 2), .int .u64 (f 3), .int .u64 (f 4)]) rfl rfl) rfl ?_))
 rintro _ w1 ⟨b1, rfl, eb1, hb1, k1, z1⟩
 have ge_b1 : w.heap.size ≤ b1 := by have := hB.size; omega
 replace hB := hB.trans k1
 clear eb1 z1
 refine ow_d (d_alloc ty26) rfl ?_
 rintro _ w2 ⟨b2, rfl, eb2, hb2, k2, z2⟩
 have ge_b2 : w.heap.size ≤ b2 := by have := hB.size; omega
 have ne_b1_b2 : b1 ≠ b2 := by have := hb1.lt; omega
 replace hb1 := hb1.keep0 k2
 replace hB := hB.trans k2
 clear eb2 z2
 refine ow_nil (tw_seq (tw_seq (tw_region (ow_g (g_mv rfl) rfl (ow_nil (tw_block ?_))))))
 refine tw_unroll 4 ?_
 refine tw_seq (tw_region (ow_g (g_lt rfl rfl) rfl ?_))
 refine ow_nil (tw_seq (tw_ifT rfl (by decide) ?_))
 refine tw_skip (tw_seq (tw_block (tw_seq (tw_region (ow_g (g_mv rfl) rfl (ow_g (g_as rfl) rfl ?_))))))
 refine ow_nil (tw_seq (tw_still 9 mixed (by decide +kernel) (fun w3 k3 => ?_)))
 replace hb1 := hb1.keep0 k3
 replace hb2 := hb2.keep0 k3
 replace hB := hB.trans k3
 refine sw_g (g_mv rfl) rfl (sw_g (g_fold (j := 1) (g_addw rfl rfl) (by decide)) rfl ?_)
 refine sw_g (g_ixa Try.underlying26 ty24 rfl rfl (by decide)) rfl ?_
 refine sw_g (g_ldb sc24 rfl hb1 rfl) rfl ?_
 refine sw_g (g_mv rfl) rfl (sw_g (g_ixa Try.underlying26 ty24 rfl rfl (by decide)) rfl ?_)
 refine sw_g (g_ldb sc24 rfl hb1 rfl) rfl ?_
 refine sw_gx (e' := (f 0) / 2251799813685248) (lo := 0) (hi := 4095) (g_shrp (m := 2251799813685248) rfl rfl (by decide) rfl) (rfl) (In.wk (in_div hf0 (by decide)) rfl) rfl (fun z3 h1 r1 => ?_)
 refine sw_gx (e' := (f 1) + z3) (lo := 0) (hi := 9223372036854779902) (g_addw rfl rfl) (wrap_fit (in_add hf1 r1) rfl) (In.wk (in_add hf1 r1) rfl) rfl (fun z4 h2 r2 => ?_)
 refine sw_nil ?_
 refine ow_g (g_ixa Try.underlying26 ty24 rfl rfl (by decide)) rfl ?_
 refine ow_d0 (d_st ty24 rfl rfl rfl hb1 rfl) ?_
 rintro _ w4 ⟨hb3, k4, z5⟩
 replace hb2 := hb2.keep k4 (fun hm => absurd (List.mem_singleton.1 hm) (Ne.symm ne_b1_b2))
 replace hB := hB.new k4 (fun x hx => .inl ((List.mem_singleton.1 hx) ▸ ge_b1))
 clear z5
 replace hb3 : Bk w4 b1 _ [.int .u64 (f 0), .int .u64 z4, .int .u64 (f 2), .int .u64 (f 3), .int .u64 (f 4)] := hb3
 refine ow_nil (tw_keep [(1, _), (2, _), (4, _), (3, _)] ⟨rfl, rfl, rfl, rfl, trivial⟩ ?_)
 refine tw_region (ow_g (g_mv rfl) rfl (ow_g (g_ixa Try.underlying26 ty24 rfl rfl (by decide)) rfl ?_))
 refine ow_g (g_ldb sc24 rfl hb3 rfl) rfl ?_
 refine ow_gx (e' := (f 0) % 2251799813685248) (lo := 0) (hi := 2251799813685247) (g_and rfl rfl) (and_mod 51 hf0 rfl rfl rfl rfl rfl rfl) (In.wk (in_mod _ (by decide)) rfl) rfl (fun z6 h3 r3 => ?_)
 refine ow_g (g_ixa Try.underlying26 ty24 rfl rfl (by decide)) rfl ?_
 refine ow_d0 (d_st ty24 rfl rfl rfl hb3 rfl) ?_
 rintro _ w5 ⟨hb4, k5, z7⟩
 replace hb2 := hb2.keep k5 (fun hm => absurd (List.mem_singleton.1 hm) (Ne.symm ne_b1_b2))
 replace hB := hB.new k5 (fun x hx => .inl ((List.mem_singleton.1 hx) ▸ ge_b1))
 clear z7
 replace hb4 : Bk w5 b1 _ [.int .u64 z6, .int .u64 z4, .int .u64 (f 2), .int .u64 (f 3), .int .u64 (f 4)] := hb4
 refine ow_nil (tw_b (tw_region (ow_g (g_fold (j := 1) (g_addw rfl rfl) (by decide)) rfl ?_)))
 refine ow_g (g_mv rfl) rfl (ow_nil (tw_lp (tw_seq (tw_region (ow_g (g_lt rfl rfl) rfl ?_)))))
 refine ow_nil (tw_seq (tw_ifT rfl (by decide) ?_))
 refine tw_skip (tw_seq (tw_block (tw_seq (tw_region (ow_g (g_mv rfl) rfl (ow_g (g_as rfl) rfl ?_))))))
 refine ow_nil (tw_seq (tw_still 9 mixed (by decide +kernel) (fun w6 k6 => ?_)))
 replace hb2 := hb2.keep0 k6
 replace hb4 := hb4.keep0 k6
 replace hB := hB.trans k6
 refine sw_g (g_mv rfl) rfl (sw_g (g_fold (j := 2) (g_addw rfl rfl) (by decide)) rfl ?_)
 refine sw_g (g_ixa Try.underlying26 ty24 rfl rfl (by decide)) rfl ?_
 refine sw_g (g_ldb sc24 rfl hb4 rfl) rfl ?_
 refine sw_g (g_mv rfl) rfl (sw_g (g_ixa Try.underlying26 ty24 rfl rfl (by decide)) rfl ?_)
 refine sw_g (g_ldb sc24 rfl hb4 rfl) rfl ?_
 refine sw_gx (e' := z4 / 2251799813685248) (lo := 0) (hi := 4096) (g_shrp (m := 2251799813685248) rfl rfl (by decide) rfl) (rfl) (In.wk (in_div r2 (by decide)) rfl) rfl (fun z8 h4 r4 => ?_)
 refine sw_gx (e' := (f 2) + z8) (lo := 0) (hi := 9223372036854779903) (g_addw rfl rfl) (wrap_fit (in_add hf2 r4) rfl) (In.wk (in_add hf2 r4) rfl) rfl (fun z9 h5 r5 => ?_)
 refine sw_nil ?_
 refine ow_g (g_ixa Try.underlying26 ty24 rfl rfl (by decide)) rfl ?_
 refine ow_d0 (d_st ty24 rfl rfl rfl hb4 rfl) ?_
 rintro _ w7 ⟨hb5, k7, z10⟩
 replace hb2 := hb2.keep k7 (fun hm => absurd (List.mem_singleton.1 hm) (Ne.symm ne_b1_b2))
 replace hB := hB.new k7 (fun x hx => .inl ((List.mem_singleton.1 hx) ▸ ge_b1))
 clear z10
 replace hb5 : Bk w7 b1 _ [.int .u64 z6, .int .u64 z4, .int .u64 z9, .int .u64 (f 3), .int .u64 (f 4)] := hb5
 refine ow_nil (tw_keep [(1, _), (2, _), (4, _), (3, _)] ⟨rfl, rfl, rfl, rfl, trivial⟩ ?_)
 refine tw_region (ow_g (g_mv rfl) rfl (ow_g (g_ixa Try.underlying26 ty24 rfl rfl (by decide)) rfl ?_))
 refine ow_g (g_ldb sc24 rfl hb5 rfl) rfl ?_
 refine ow_gx (e' := z4 % 2251799813685248) (lo := 0) (hi := 2251799813685247) (g_and rfl rfl) (and_mod 51 r2 rfl rfl rfl rfl rfl rfl) (In.wk (in_mod _ (by decide)) rfl) rfl (fun z11 h6 r6 => ?_)
 refine ow_g (g_ixa Try.underlying26 ty24 rfl rfl (by decide)) rfl ?_
 refine ow_d0 (d_st ty24 rfl rfl rfl hb5 rfl) ?_
 rintro _ w8 ⟨hb6, k8, z12⟩
 replace hb2 := hb2.keep k8 (fun hm => absurd (List.mem_singleton.1 hm) (Ne.symm ne_b1_b2))
 replace hB := hB.new k8 (fun x hx => .inl ((List.mem_singleton.1 hx) ▸ ge_b1))
 clear z12
 replace hb6 : Bk w8 b1 _ [.int .u64 z6, .int .u64 z11, .int .u64 z9, .int .u64 (f 3), .int .u64 (f 4)] := hb6
 refine ow_nil (tw_b (tw_region (ow_g (g_fold (j := 2) (g_addw rfl rfl) (by decide)) rfl ?_)))
 refine ow_g (g_mv rfl) rfl (ow_nil (tw_lp (tw_seq (tw_region (ow_g (g_lt rfl rfl) rfl ?_)))))
 refine ow_nil (tw_seq (tw_ifT rfl (by decide) ?_))
 refine tw_skip (tw_seq (tw_block (tw_seq (tw_region (ow_g (g_mv rfl) rfl (ow_g (g_as rfl) rfl ?_))))))
 refine ow_nil (tw_seq (tw_still 9 mixed (by decide +kernel) (fun w9 k9 => ?_)))
 replace hb2 := hb2.keep0 k9
 replace hb6 := hb6.keep0 k9
 replace hB := hB.trans k9
 refine sw_g (g_mv rfl) rfl (sw_g (g_fold (j := 3) (g_addw rfl rfl) (by decide)) rfl ?_)
 refine sw_g (g_ixa Try.underlying26 ty24 rfl rfl (by decide)) rfl ?_
 refine sw_g (g_ldb sc24 rfl hb6 rfl) rfl ?_
 refine sw_g (g_mv rfl) rfl (sw_g (g_ixa Try.underlying26 ty24 rfl rfl (by decide)) rfl ?_)
 refine sw_g (g_ldb sc24 rfl hb6 rfl) rfl ?_
 refine sw_gx (e' := z9 / 2251799813685248) (lo := 0) (hi := 4096) (g_shrp (m := 2251799813685248) rfl rfl (by decide) rfl) (rfl) (In.wk (in_div r5 (by decide)) rfl) rfl (fun z13 h7 r7 => ?_)
 refine sw_gx (e' := (f 3) + z13) (lo := 0) (hi := 9223372036854779903) (g_addw rfl rfl) (wrap_fit (in_add hf3 r7) rfl) (In.wk (in_add hf3 r7) rfl) rfl (fun z14 h8 r8 => ?_)
 refine sw_nil ?_
 refine ow_g (g_ixa Try.underlying26 ty24 rfl rfl (by decide)) rfl ?_
 refine ow_d0 (d_st ty24 rfl rfl rfl hb6 rfl) ?_
 rintro _ w10 ⟨hb7, k10, z15⟩
 replace hb2 := hb2.keep k10 (fun hm => absurd (List.mem_singleton.1 hm) (Ne.symm ne_b1_b2))
 replace hB := hB.new k10 (fun x hx => .inl ((List.mem_singleton.1 hx) ▸ ge_b1))
 clear z15
 replace hb7 : Bk w10 b1 _ [.int .u64 z6, .int .u64 z11, .int .u64 z9, .int .u64 z14, .int .u64 (f 4)] := hb7
 refine ow_nil (tw_keep [(1, _), (2, _), (4, _), (3, _)] ⟨rfl, rfl, rfl, rfl, trivial⟩ ?_)
 refine tw_region (ow_g (g_mv rfl) rfl (ow_g (g_ixa Try.underlying26 ty24 rfl rfl (by decide)) rfl ?_))
 refine ow_g (g_ldb sc24 rfl hb7 rfl) rfl ?_
 refine ow_gx (e' := z9 % 2251799813685248) (lo := 0) (hi := 2251799813685247) (g_and rfl rfl) (and_mod 51 r5 rfl rfl rfl rfl rfl rfl) (In.wk (in_mod _ (by decide)) rfl) rfl (fun z16 h9 r9 => ?_)
 refine ow_g (g_ixa Try.underlying26 ty24 rfl rfl (by decide)) rfl ?_
 refine ow_d0 (d_st ty24 rfl rfl rfl hb7 rfl) ?_
 rintro _ w11 ⟨hb8, k11, z17⟩
 replace hb2 := hb2.keep k11 (fun hm => absurd (List.mem_singleton.1 hm) (Ne.symm ne_b1_b2))
 replace hB := hB.new k11 (fun x hx => .inl ((List.mem_singleton.1 hx) ▸ ge_b1))
 clear z17
 replace hb8 : Bk w11 b1 _ [.int .u64 z6, .int .u64 z11, .int .u64 z16, .int .u64 z14, .int .u64 (f 4)] := hb8
 refine ow_nil (tw_b (tw_region (ow_g (g_fold (j := 3) (g_addw rfl rfl) (by decide)) rfl ?_)))
 refine ow_g (g_mv rfl) rfl (ow_nil (tw_lp (tw_seq (tw_region (ow_g (g_lt rfl rfl) rfl ?_)))))
 refine ow_nil (tw_seq (tw_ifT rfl (by decide) ?_))
 refine tw_skip (tw_seq (tw_block (tw_seq (tw_region (ow_g (g_mv rfl) rfl (ow_g (g_as rfl) rfl ?_))))))
 refine ow_nil (tw_seq (tw_still 9 mixed (by decide +kernel) (fun w12 k12 => ?_)))
 replace hb2 := hb2.keep0 k12
 replace hb8 := hb8.keep0 k12
 replace hB := hB.trans k12
 refine sw_g (g_mv rfl) rfl (sw_g (g_fold (j := 4) (g_addw rfl rfl) (by decide)) rfl ?_)
 refine sw_g (g_ixa Try.underlying26 ty24 rfl rfl (by decide)) rfl ?_
 refine sw_g (g_ldb sc24 rfl hb8 rfl) rfl ?_
 refine sw_g (g_mv rfl) rfl (sw_g (g_ixa Try.underlying26 ty24 rfl rfl (by decide)) rfl ?_)
 refine sw_g (g_ldb sc24 rfl hb8 rfl) rfl ?_
 refine sw_gx (e' := z14 / 2251799813685248) (lo := 0) (hi := 4096) (g_shrp (m := 2251799813685248) rfl rfl (by decide) rfl) (rfl) (In.wk (in_div r8 (by decide)) rfl) rfl (fun z18 h10 r10 => ?_)
 refine sw_gx (e' := (f 4) + z18) (lo := 0) (hi := 9223372036854779903) (g_addw rfl rfl) (wrap_fit (in_add hf4 r10) rfl) (In.wk (in_add hf4 r10) rfl) rfl (fun z19 h11 r11 => ?_)
 refine sw_nil ?_
 refine ow_g (g_ixa Try.underlying26 ty24 rfl rfl (by decide)) rfl ?_
 refine ow_d0 (d_st ty24 rfl rfl rfl hb8 rfl) ?_
 rintro _ w13 ⟨hb9, k13, z20⟩
 replace hb2 := hb2.keep k13 (fun hm => absurd (List.mem_singleton.1 hm) (Ne.symm ne_b1_b2))
 replace hB := hB.new k13 (fun x hx => .inl ((List.mem_singleton.1 hx) ▸ ge_b1))
 clear z20
 replace hb9 : Bk w13 b1 _ [.int .u64 z6, .int .u64 z11, .int .u64 z16, .int .u64 z14, .int .u64 z19] := hb9
 refine ow_nil (tw_keep [(1, _), (2, _), (4, _), (3, _)] ⟨rfl, rfl, rfl, rfl, trivial⟩ ?_)
 refine tw_region (ow_g (g_mv rfl) rfl (ow_g (g_ixa Try.underlying26 ty24 rfl rfl (by decide)) rfl ?_))
 refine ow_g (g_ldb sc24 rfl hb9 rfl) rfl ?_
 refine ow_gx (e' := z14 % 2251799813685248) (lo := 0) (hi := 2251799813685247) (g_and rfl rfl) (and_mod 51 r8 rfl rfl rfl rfl rfl rfl) (In.wk (in_mod _ (by decide)) rfl) rfl (fun z21 h12 r12 => ?_)
 refine ow_g (g_ixa Try.underlying26 ty24 rfl rfl (by decide)) rfl ?_
 refine ow_d0 (d_st ty24 rfl rfl rfl hb9 rfl) ?_
 rintro _ w14 ⟨hb10, k14, z22⟩
 replace hb2 := hb2.keep k14 (fun hm => absurd (List.mem_singleton.1 hm) (Ne.symm ne_b1_b2))
 replace hB := hB.new k14 (fun x hx => .inl ((List.mem_singleton.1 hx) ▸ ge_b1))
 clear z22
 replace hb10 : Bk w14 b1 _ [.int .u64 z6, .int .u64 z11, .int .u64 z16, .int .u64 z21, .int .u64 z19] := hb10
 refine ow_nil (tw_b (tw_region (ow_g (g_fold (j := 4) (g_addw rfl rfl) (by decide)) rfl ?_)))
 refine ow_g (g_mv rfl) rfl (ow_nil (tw_lp (tw_seq (tw_region (ow_g (g_lt rfl rfl) rfl ?_)))))
 refine ow_nil (tw_seq (tw_ifF rfl (by decide) ?_))
 refine tw_exit rfl ?_
 refine tw_seq (tw_region (ow_g (g_ixa Try.underlying26 ty24 rfl rfl (by decide)) rfl ?_))
 refine ow_g (g_ldb sc24 rfl hb10 rfl) rfl ?_
 refine ow_g (g_ixa Try.underlying26 ty24 rfl rfl (by decide)) rfl ?_
 refine ow_g (g_ldb sc24 rfl hb10 rfl) rfl ?_
 refine ow_gx (e' := z19 / 2251799813685248) (lo := 0) (hi := 4096) (g_shrp (m := 2251799813685248) rfl rfl (by decide) rfl) (rfl) (In.wk (in_div r11 (by decide)) rfl) rfl (fun z23 h13 r13 => ?_)
 refine ow_gx (e' := 19 * z23) (lo := 0) (hi := 77824) (g_mulw rfl rfl) (wrap_fit (in_cmul r13 (by decide)) rfl) (In.wk (in_cmul r13 (by decide)) rfl) rfl (fun z24 h14 r14 => ?_)
 refine ow_gx (e' := z6 + z24) (lo := 0) (hi := 2251799813763071) (g_addw rfl rfl) (wrap_fit (in_add r3 r14) rfl) (In.wk (in_add r3 r14) rfl) rfl (fun z25 h15 r15 => ?_)
 refine ow_g (g_ixa Try.underlying26 ty24 rfl rfl (by decide)) rfl ?_
 refine ow_d0 (d_st ty24 rfl rfl rfl hb10 rfl) ?_
 rintro _ w15 ⟨hb11, k15, z26⟩
 replace hb2 := hb2.keep k15 (fun hm => absurd (List.mem_singleton.1 hm) (Ne.symm ne_b1_b2))
 replace hB := hB.new k15 (fun x hx => .inl ((List.mem_singleton.1 hx) ▸ ge_b1))
 clear z26
 replace hb11 : Bk w15 b1 _ [.int .u64 z25, .int .u64 z11, .int .u64 z16, .int .u64 z21, .int .u64 z19] := hb11
 refine ow_nil (tw_keep [(1, _), (2, _)] ⟨rfl, rfl, trivial⟩ ?_)
 refine tw_seq (tw_region (ow_g (g_ixa Try.underlying26 ty24 rfl rfl (by decide)) rfl ?_))
 refine ow_g (g_ldb sc24 rfl hb11 rfl) rfl ?_
 refine ow_gx (e' := z19 % 2251799813685248) (lo := 0) (hi := 2251799813685247) (g_and rfl rfl) (and_mod 51 r11 rfl rfl rfl rfl rfl rfl) (In.wk (in_mod _ (by decide)) rfl) rfl (fun z27 h16 r16 => ?_)
 refine ow_g (g_ixa Try.underlying26 ty24 rfl rfl (by decide)) rfl ?_
 refine ow_d0 (d_st ty24 rfl rfl rfl hb11 rfl) ?_
 rintro _ w16 ⟨hb12, k16, z28⟩
 replace hb2 := hb2.keep k16 (fun hm => absurd (List.mem_singleton.1 hm) (Ne.symm ne_b1_b2))
 replace hB := hB.new k16 (fun x hx => .inl ((List.mem_singleton.1 hx) ▸ ge_b1))
 clear z28
 replace hb12 : Bk w16 b1 _ [.int .u64 z25, .int .u64 z11, .int .u64 z16, .int .u64 z21, .int .u64 z27] := hb12
 refine ow_nil (tw_seq (tw_region (ow_g (g_ldab (cs' := [_, _, _, _, _]) ag26 ty26 rfl hb12 rfl rfl) rfl ?_)))
 refine ow_d0 (d_sta ty26 rfl rfl rfl (by simp only [List.forall_mem_cons]; refine ⟨rfl, rfl, rfl, rfl, rfl, fun v hv => by cases hv⟩) hb2 rfl) ?_
 rintro _ w17 ⟨hb13, k17, z29⟩
 replace hb12 := hb12.keep k17 (fun hm => absurd (List.mem_singleton.1 hm) ne_b1_b2)
 replace hB := hB.new k17 (fun x hx => .inl ((List.mem_singleton.1 hx) ▸ ge_b2))
 clear z29
 replace hb13 : Bk w17 b2 _ [.int .u64 z25, .int .u64 z11, .int .u64 z16, .int .u64 z21, .int .u64 z27] := hb13
 refine ow_nil (tw_retc hfin Try.results80 rfl (run_loadAgg ag26 ty26 ‹_› rfl)  ?_)
 simp only [Eqn, In] at h1 r1 h2 r2 h3 r3 h4 r4 h5 r5 h6 r6 h7 r7 h8 r8 h9 r9 h10 r10 h11 r11 h12 r12 h13 r13 h14 r14 h15 r15 h16 r16 hf0 hf1 hf2 hf3 hf4
 exact ⟨(vecN [z25, z11, z16, z21, z27]), _, _, _, _, _, rfl, rfl, rfl, rfl, rfl, rfl, (by show z25 = _; omega), (by show z11 = _; omega), (by show z16 = _; omega), (by show z21 = _; omega), (by show z27 = _; omega), (by show z25 + z11 * 2251799813685248 + z16 * 5070602400912917605986812821504 + z21 * 11417981541647679048466287755595961091061972992 + z27 * 25711008708143844408671393477458601640355247900524685364822016 + _ = val5 f; unfold val5; omega), hB⟩
set_option maxRecDepth 100000 in
theorem plus_any (h0 l0 x y b c d e : Int) (rh0 : In h0 0 18446744073709551615) (rl0 : In l0 0 18446744073709551615) (hx : In x 0 18446744073709551615) (hy : In y 0 18446744073709551615) (hb : Le (h0 * 18446744073709551616 + l0) b) (hc : x * y ≤ c) (hd : b + c = d) (he : d / 18446744073709551616 = e) (hm : e ≤ 18446744073709551615) (w : World) : Rets Try.prog 81 [.agg [.int .u64 h0, .int .u64 l0].toArray, .int .u64 x, .int .u64 y] w (fun v w' => ∃ hi lo, v = .agg [.int .u64 hi, .int .u64 lo].toArray ∧ In hi 0 e ∧ In lo 0 18446744073709551615 ∧ Eqn (hi * 18446744073709551616 + lo) (h0 * 18446744073709551616 + l0 + x * y) ∧ Le (hi * 18446744073709551616 + lo) d ∧ Keep [] w w') := by
 have hB : Keep [] w w := Keep.refl _ _
 have hxy : 0 ≤ x * y := Int.mul_nonneg hx.1 hy.1
 refine rets_of_tw Try.func81 rfl (by decide) Try.ntmps81 rfl (fun fin _ hfin => ?_)
 refine tw_seq (tw_region (ow_d (d_box (cs := [.int .u64 h0, .int .u64 l0]) rfl rfl) rfl ?_))
 rintro _ w1 ⟨b1, rfl, eb1, hb1, k1, z1⟩
 have ge_b1 : w.heap.size ≤ b1 := by have := hB.size; omega
 replace hB := hB.trans k1
 clear eb1 z1
 refine ow_d (d_alloc ty106) rfl ?_
 rintro _ w2 ⟨b2, rfl, eb2, hb2, k2, z2⟩
 have ge_b2 : w.heap.size ≤ b2 := by have := hB.size; omega
 have ne_b1_b2 : b1 ≠ b2 := by have := hb1.lt; omega
 replace hb1 := hb1.keep0 k2
 replace hB := hB.trans k2
 clear eb2 z2
 refine ow_nil (tw_seq (tw_region (ow_g (g_mv rfl) rfl (ow_g (g_mv rfl) rfl (ow_d (d_call (vs := [_, _]) rfl (mul64_any _ _ (In.wk hx rfl) (In.wk hy rfl) _)) rfl ?_)))))
 rintro _ _ ⟨rfl, rfl⟩
 refine ow_g (g_mv rfl) rfl (ow_gx (e' := (x * y / 18446744073709551616)) (lo := 0) (hi := 18446744073709551614) (g_ext (vs := [_, _]) rfl rfl) (rfl) (In.wk (in_div (in_mul hx hy (by decide) (by decide)) (by decide)) rfl) rfl (fun z3 h1 r1 => ?_))
 refine ow_gx (e' := (x * y % 18446744073709551616)) (lo := 0) (hi := 18446744073709551615) (g_ext (vs := [_, _]) rfl rfl) (rfl) (In.wk (in_mod _ (by decide)) rfl) rfl (fun z4 h2 r2 => ?_)
 refine ow_g (g_as rfl) rfl (ow_g (g_as rfl) rfl (ow_nil (tw_seq (tw_region (ow_g (g_as rfl) rfl (ow_nil ?_))))))
 refine tw_keep [(3, _), (6, _), (7, _), (8, _)] ⟨rfl, rfl, rfl, rfl, trivial⟩ ?_
 refine tw_seq (tw_region (ow_g (g_fa Try.underlying106 rfl ty24 (by decide) rfl) rfl ?_))
 refine ow_g (g_ldb sc24 rfl hb1 rfl) rfl ?_
 refine ow_g (g_mv rfl) rfl (ow_g (g_callv (vs := [_, _, _]) rfl (add64_run _ _ _ (In.wk rl0 rfl) (In.wk r2 rfl) (In.wk (in_c 0) rfl))) rfl ?_)
 refine ow_g (g_mv rfl) rfl (ow_gx (e' := ((l0 + z4 + 0) % 18446744073709551616)) (lo := 0) (hi := 18446744073709551615) (g_ext (vs := [_, _]) rfl rfl) (rfl) (In.wk (in_mod _ (by decide)) rfl) rfl (fun z5 h3 r3 => ?_))
 refine ow_gx (e' := ((l0 + z4 + 0) / 18446744073709551616)) (lo := 0) (hi := 1) (g_ext (vs := [_, _]) rfl rfl) (rfl) (In.wk (in_div (in_add (in_add rl0 r2) (in_c 0)) (by decide)) rfl) rfl (fun z6 h4 r4 => ?_)
 refine ow_g (g_fa Try.underlying106 rfl ty24 (by decide) rfl) rfl ?_
 refine ow_d0 (d_st ty24 rfl rfl rfl hb1 rfl) ?_
 rintro _ w3 ⟨hb3, k3, z7⟩
 replace hb2 := hb2.keep k3 (fun hm => absurd (List.mem_singleton.1 hm) (Ne.symm ne_b1_b2))
 replace hB := hB.new k3 (fun x hx => .inl ((List.mem_singleton.1 hx) ▸ ge_b1))
 clear z7
 replace hb3 : Bk w3 b1 _ [.int .u64 h0, .int .u64 z5] := hb3
 refine ow_g (g_as rfl) rfl (ow_nil (tw_seq (tw_region (ow_g (g_fa Try.underlying106 rfl ty24 (by decide) rfl) rfl ?_))))
 refine ow_g (g_ldb sc24 rfl hb3 rfl) rfl ?_
 refine ow_g (g_mv rfl) rfl (ow_g (g_mv rfl) rfl (ow_g (g_callv (vs := [_, _, _]) rfl (add64_run _ _ _ (In.wk rh0 rfl) (In.wk r1 rfl) (In.wk r4 rfl))) rfl ?_))
 refine ow_g (g_mv rfl) rfl (ow_gx (e' := ((h0 + z3 + z6) % 18446744073709551616)) (lo := 0) (hi := 18446744073709551615) (g_ext (vs := [_, _]) rfl rfl) (rfl) (In.wk (in_mod _ (by decide)) rfl) rfl (fun z8 h5 r5 => ?_))
 refine ow_gx (e' := ((h0 + z3 + z6) / 18446744073709551616)) (lo := 0) (hi := 1) (g_ext (vs := [_, _]) rfl rfl) (rfl) (In.wk (in_div (in_add (in_add rh0 r1) r4) (by decide)) rfl) rfl (fun z9 h6 r6 => ?_)
 refine ow_g (g_fa Try.underlying106 rfl ty24 (by decide) rfl) rfl ?_
 refine ow_d0 (d_st ty24 rfl rfl rfl hb3 rfl) ?_
 rintro _ w4 ⟨hb4, k4, z10⟩
 replace hb2 := hb2.keep k4 (fun hm => absurd (List.mem_singleton.1 hm) (Ne.symm ne_b1_b2))
 replace hB := hB.new k4 (fun x hx => .inl ((List.mem_singleton.1 hx) ▸ ge_b1))
 clear z10
 replace hb4 : Bk w4 b1 _ [.int .u64 z8, .int .u64 z5] := hb4
 refine ow_nil (tw_keep [(3, _), (6, _)] ⟨rfl, rfl, trivial⟩ ?_)
 refine tw_seq (tw_region (ow_g (g_ldab (cs' := [_, _]) ag106 ty106 rfl hb4 rfl rfl) rfl ?_))
 refine ow_d0 (d_sta ty106 rfl rfl rfl (by simp only [List.forall_mem_cons]; refine ⟨rfl, rfl, fun v hv => by cases hv⟩) hb2 rfl) ?_
 rintro _ w5 ⟨hb5, k5, z11⟩
 replace hb4 := hb4.keep k5 (fun hm => absurd (List.mem_singleton.1 hm) ne_b1_b2)
 replace hB := hB.new k5 (fun x hx => .inl ((List.mem_singleton.1 hx) ▸ ge_b2))
 clear z11
 replace hb5 : Bk w5 b2 _ [.int .u64 z8, .int .u64 z5] := hb5
 refine ow_nil (tw_retc hfin Try.results81 rfl (run_loadAgg ag106 ty106 ‹_› rfl)  ?_)
 simp only [Eqn, In] at h1 r1 h2 r2 h3 r3 h4 r4 h5 r5 h6 r6 hx hy rh0 rl0
 unfold Le at hb
 exact ⟨z8, z5, rfl, by unfold In; omega, by unfold In; omega, by unfold Eqn; omega, by unfold Le; omega, hB⟩
set_option maxRecDepth 100000 in
theorem add_any (f g : Nat → Int) (a b : Fp) (hf : El f a) (hg : El g b) (w : World) : Rets Try.prog 73 [.agg (iv .u64 5 f).toArray, .agg (iv .u64 5 g).toArray] w (fun v w' => ∃ h, v = .agg (iv .u64 5 h).toArray ∧ El h (a + b) ∧ Keep [] w w') := by
 have hB : Keep [] w w := Keep.refl _ _
 obtain ⟨f0, f1, f2, f3, f4, hfv⟩ := hf
 obtain ⟨g0, g1, g2, g3, g4, hgv⟩ := hg
 refine rets_of_tw Try.func73 rfl (by decide) Try.ntmps73 rfl (fun fin _ hfin => ?_)
 refine tw_seq (tw_region (ow_d (d_box (cs := [.int .u64 (f 0), .int .u64 (f 1), .int .u64 (f 2), .int .u64 (f 3), .int .u64 (f 4)]) rfl rfl) rfl ?_))
 rintro _ w1 ⟨b1, rfl, eb1, hb1, k1, z1⟩
 have ge_b1 : w.heap.size ≤ b1 := by have := hB.size; omega
 replace hB := hB.trans k1
 clear eb1 z1
 refine ow_d (d_box (cs := [.int .u64 (g 0), .int .u64 (g 1), .int .u64 (g 2), .int .u64 (g 3), .int .u64 (g 4)]) rfl rfl) rfl ?_
 rintro _ w2 ⟨b2, rfl, eb2, hb2, k2, z2⟩
 have ge_b2 : w.heap.size ≤ b2 := by have := hB.size; omega
 have ne_b1_b2 : b1 ≠ b2 := by have := hb1.lt; omega
 replace hb1 := hb1.keep0 k2
 replace hB := hB.trans k2
 clear eb2 z2
 refine ow_d (d_alloc ty26) rfl ?_
 rintro _ w3 ⟨b3, rfl, eb3, hb3, k3, z3⟩
 have ge_b3 : w.heap.size ≤ b3 := by have := hB.size; omega
 have ne_b1_b3 : b1 ≠ b3 := by have := hb1.lt; omega
 have ne_b2_b3 : b2 ≠ b3 := by have := hb2.lt; omega
 replace hb1 := hb1.keep0 k3
 replace hb2 := hb2.keep0 k3
 replace hB := hB.trans k3
 clear eb3 z3
 refine ow_nil (tw_seq (tw_seq (tw_region (ow_g (g_mv rfl) rfl (ow_nil (tw_block ?_))))))
 refine tw_unroll 5 ?_
 refine tw_seq (tw_region (ow_g (g_lt rfl rfl) rfl ?_))
 refine ow_nil (tw_seq (tw_ifT rfl (by decide) ?_))
 refine tw_skip (tw_seq (tw_block (tw_seq (tw_region (ow_g (g_mv rfl) rfl (ow_g (g_as rfl) rfl ?_))))))
 refine ow_nil (tw_still 7 mixed (by decide +kernel) (fun w4 k4 => ?_))
 replace hb1 := hb1.keep0 k4
 replace hb2 := hb2.keep0 k4
 replace hb3 := hb3.keep0 k4
 replace hB := hB.trans k4
 refine sw_g (g_mv rfl) rfl (sw_g (g_ixa Try.underlying26 ty24 rfl rfl (by decide)) rfl ?_)
 refine sw_g (g_ldb sc24 rfl hb1 rfl) rfl ?_
 refine sw_g (g_mv rfl) rfl (sw_g (g_ixa Try.underlying26 ty24 rfl rfl (by decide)) rfl ?_)
 refine sw_g (g_ldb sc24 rfl hb2 rfl) rfl ?_
 refine sw_gx (e' := (f 0) + (g 0)) (lo := 0) (hi := 9007199254740990) (g_addw rfl rfl) (wrap_fit (in_add f0 g0) rfl) (In.wk (in_add f0 g0) rfl) rfl (fun z4 h1 r1 => ?_)
 refine sw_nil ?_
 refine ow_g (g_ixa Try.underlying26 ty24 rfl rfl (by decide)) rfl ?_
 refine ow_d0 (d_st ty24 rfl rfl rfl hb1 rfl) ?_
 rintro _ w5 ⟨hb4, k5, z5⟩
 replace hb2 := hb2.keep k5 (fun hm => absurd (List.mem_singleton.1 hm) (Ne.symm ne_b1_b2))
 replace hb3 := hb3.keep k5 (fun hm => absurd (List.mem_singleton.1 hm) (Ne.symm ne_b1_b3))
 replace hB := hB.new k5 (fun x hx => .inl ((List.mem_singleton.1 hx) ▸ ge_b1))
 clear z5
 replace hb4 : Bk w5 b1 _ [.int .u64 z4, .int .u64 (f 1), .int .u64 (f 2), .int .u64 (f 3), .int .u64 (f 4)] := hb4
 refine ow_nil (tw_keep [(2, _), (3, _), (4, _), (6, _)] ⟨rfl, rfl, rfl, rfl, trivial⟩ ?_)
 refine tw_b (tw_region (ow_g (g_fold (j := 1) (g_addw rfl rfl) (by decide)) rfl ?_))
 refine ow_g (g_mv rfl) rfl (ow_nil (tw_lp (tw_seq (tw_region (ow_g (g_lt rfl rfl) rfl ?_)))))
 refine ow_nil (tw_seq (tw_ifT rfl (by decide) ?_))
 refine tw_skip (tw_seq (tw_block (tw_seq (tw_region (ow_g (g_mv rfl) rfl (ow_g (g_as rfl) rfl ?_))))))
 refine ow_nil (tw_still 7 mixed (by decide +kernel) (fun w6 k6 => ?_))
 replace hb2 := hb2.keep0 k6
 replace hb3 := hb3.keep0 k6
 replace hb4 := hb4.keep0 k6
 replace hB := hB.trans k6
 refine sw_g (g_mv rfl) rfl (sw_g (g_ixa Try.underlying26 ty24 rfl rfl (by decide)) rfl ?_)
 refine sw_g (g_ldb sc24 rfl hb4 rfl) rfl ?_
 refine sw_g (g_mv rfl) rfl (sw_g (g_ixa Try.underlying26 ty24 rfl rfl (by decide)) rfl ?_)
 refine sw_g (g_ldb sc24 rfl hb2 rfl) rfl ?_
 refine sw_gx (e' := (f 1) + (g 1)) (lo := 0) (hi := 9007199254740990) (g_addw rfl rfl) (wrap_fit (in_add f1 g1) rfl) (In.wk (in_add f1 g1) rfl) rfl (fun z6 h2 r2 => ?_)
 refine sw_nil ?_
 refine ow_g (g_ixa Try.underlying26 ty24 rfl rfl (by decide)) rfl ?_
 refine ow_d0 (d_st ty24 rfl rfl rfl hb4 rfl) ?_
 rintro _ w7 ⟨hb5, k7, z7⟩
 replace hb2 := hb2.keep k7 (fun hm => absurd (List.mem_singleton.1 hm) (Ne.symm ne_b1_b2))
 replace hb3 := hb3.keep k7 (fun hm => absurd (List.mem_singleton.1 hm) (Ne.symm ne_b1_b3))
 replace hB := hB.new k7 (fun x hx => .inl ((List.mem_singleton.1 hx) ▸ ge_b1))
 clear z7
 replace hb5 : Bk w7 b1 _ [.int .u64 z4, .int .u64 z6, .int .u64 (f 2), .int .u64 (f 3), .int .u64 (f 4)] := hb5
 refine ow_nil (tw_keep [(2, _), (3, _), (4, _), (6, _)] ⟨rfl, rfl, rfl, rfl, trivial⟩ ?_)
 refine tw_b (tw_region (ow_g (g_fold (j := 2) (g_addw rfl rfl) (by decide)) rfl ?_))
 refine ow_g (g_mv rfl) rfl (ow_nil (tw_lp (tw_seq (tw_region (ow_g (g_lt rfl rfl) rfl ?_)))))
 refine ow_nil (tw_seq (tw_ifT rfl (by decide) ?_))
 refine tw_skip (tw_seq (tw_block (tw_seq (tw_region (ow_g (g_mv rfl) rfl (ow_g (g_as rfl) rfl ?_))))))
 refine ow_nil (tw_still 7 mixed (by decide +kernel) (fun w8 k8 => ?_))
 replace hb2 := hb2.keep0 k8
 replace hb3 := hb3.keep0 k8
 replace hb5 := hb5.keep0 k8
 replace hB := hB.trans k8
 refine sw_g (g_mv rfl) rfl (sw_g (g_ixa Try.underlying26 ty24 rfl rfl (by decide)) rfl ?_)
 refine sw_g (g_ldb sc24 rfl hb5 rfl) rfl ?_
 refine sw_g (g_mv rfl) rfl (sw_g (g_ixa Try.underlying26 ty24 rfl rfl (by decide)) rfl ?_)
 refine sw_g (g_ldb sc24 rfl hb2 rfl) rfl ?_
 refine sw_gx (e' := (f 2) + (g 2)) (lo := 0) (hi := 9007199254740990) (g_addw rfl rfl) (wrap_fit (in_add f2 g2) rfl) (In.wk (in_add f2 g2) rfl) rfl (fun z8 h3 r3 => ?_)
 refine sw_nil ?_
 refine ow_g (g_ixa Try.underlying26 ty24 rfl rfl (by decide)) rfl ?_
 refine ow_d0 (d_st ty24 rfl rfl rfl hb5 rfl) ?_
 rintro _ w9 ⟨hb6, k9, z9⟩
 replace hb2 := hb2.keep k9 (fun hm => absurd (List.mem_singleton.1 hm) (Ne.symm ne_b1_b2))
 replace hb3 := hb3.keep k9 (fun hm => absurd (List.mem_singleton.1 hm) (Ne.symm ne_b1_b3))
 replace hB := hB.new k9 (fun x hx => .inl ((List.mem_singleton.1 hx) ▸ ge_b1))
 clear z9
 replace hb6 : Bk w9 b1 _ [.int .u64 z4, .int .u64 z6, .int .u64 z8, .int .u64 (f 3), .int .u64 (f 4)] := hb6
 refine ow_nil (tw_keep [(2, _), (3, _), (4, _), (6, _)] ⟨rfl, rfl, rfl, rfl, trivial⟩ ?_)
 refine tw_b (tw_region (ow_g (g_fold (j := 3) (g_addw rfl rfl) (by decide)) rfl ?_))
 refine ow_g (g_mv rfl) rfl (ow_nil (tw_lp (tw_seq (tw_region (ow_g (g_lt rfl rfl) rfl ?_)))))
 refine ow_nil (tw_seq (tw_ifT rfl (by decide) ?_))
 refine tw_skip (tw_seq (tw_block (tw_seq (tw_region (ow_g (g_mv rfl) rfl (ow_g (g_as rfl) rfl ?_))))))
 refine ow_nil (tw_still 7 mixed (by decide +kernel) (fun w10 k10 => ?_))
 replace hb2 := hb2.keep0 k10
 replace hb3 := hb3.keep0 k10
 replace hb6 := hb6.keep0 k10
 replace hB := hB.trans k10
 refine sw_g (g_mv rfl) rfl (sw_g (g_ixa Try.underlying26 ty24 rfl rfl (by decide)) rfl ?_)
 refine sw_g (g_ldb sc24 rfl hb6 rfl) rfl ?_
 refine sw_g (g_mv rfl) rfl (sw_g (g_ixa Try.underlying26 ty24 rfl rfl (by decide)) rfl ?_)
 refine sw_g (g_ldb sc24 rfl hb2 rfl) rfl ?_
 refine sw_gx (e' := (f 3) + (g 3)) (lo := 0) (hi := 9007199254740990) (g_addw rfl rfl) (wrap_fit (in_add f3 g3) rfl) (In.wk (in_add f3 g3) rfl) rfl (fun z10 h4 r4 => ?_)
 refine sw_nil ?_
 refine ow_g (g_ixa Try.underlying26 ty24 rfl rfl (by decide)) rfl ?_
 refine ow_d0 (d_st ty24 rfl rfl rfl hb6 rfl) ?_
 rintro _ w11 ⟨hb7, k11, z11⟩
 replace hb2 := hb2.keep k11 (fun hm => absurd (List.mem_singleton.1 hm) (Ne.symm ne_b1_b2))
 replace hb3 := hb3.keep k11 (fun hm => absurd (List.mem_singleton.1 hm) (Ne.symm ne_b1_b3))
 replace hB := hB.new k11 (fun x hx => .inl ((List.mem_singleton.1 hx) ▸ ge_b1))
 clear z11
 replace hb7 : Bk w11 b1 _ [.int .u64 z4, .int .u64 z6, .int .u64 z8, .int .u64 z10, .int .u64 (f 4)] := hb7
 refine ow_nil (tw_keep [(2, _), (3, _), (4, _), (6, _)] ⟨rfl, rfl, rfl, rfl, trivial⟩ ?_)
 refine tw_b (tw_region (ow_g (g_fold (j := 4) (g_addw rfl rfl) (by decide)) rfl ?_))
 refine ow_g (g_mv rfl) rfl (ow_nil (tw_lp (tw_seq (tw_region (ow_g (g_lt rfl rfl) rfl ?_)))))
 refine ow_nil (tw_seq (tw_ifT rfl (by decide) ?_))
 refine tw_skip (tw_seq (tw_block (tw_seq (tw_region (ow_g (g_mv rfl) rfl (ow_g (g_as rfl) rfl ?_))))))
 refine ow_nil (tw_still 7 mixed (by decide +kernel) (fun w12 k12 => ?_))
 replace hb2 := hb2.keep0 k12
 replace hb3 := hb3.keep0 k12
 replace hb7 := hb7.keep0 k12
 replace hB := hB.trans k12
 refine sw_g (g_mv rfl) rfl (sw_g (g_ixa Try.underlying26 ty24 rfl rfl (by decide)) rfl ?_)
 refine sw_g (g_ldb sc24 rfl hb7 rfl) rfl ?_
 refine sw_g (g_mv rfl) rfl (sw_g (g_ixa Try.underlying26 ty24 rfl rfl (by decide)) rfl ?_)
 refine sw_g (g_ldb sc24 rfl hb2 rfl) rfl ?_
 refine sw_gx (e' := (f 4) + (g 4)) (lo := 0) (hi := 9007199254740990) (g_addw rfl rfl) (wrap_fit (in_add f4 g4) rfl) (In.wk (in_add f4 g4) rfl) rfl (fun z12 h5 r5 => ?_)
 refine sw_nil ?_
 refine ow_g (g_ixa Try.underlying26 ty24 rfl rfl (by decide)) rfl ?_
 refine ow_d0 (d_st ty24 rfl rfl rfl hb7 rfl) ?_
 rintro _ w13 ⟨hb8, k13, z13⟩
 replace hb2 := hb2.keep k13 (fun hm => absurd (List.mem_singleton.1 hm) (Ne.symm ne_b1_b2))
 replace hb3 := hb3.keep k13 (fun hm => absurd (List.mem_singleton.1 hm) (Ne.symm ne_b1_b3))
 replace hB := hB.new k13 (fun x hx => .inl ((List.mem_singleton.1 hx) ▸ ge_b1))
 clear z13
 replace hb8 : Bk w13 b1 _ [.int .u64 z4, .int .u64 z6, .int .u64 z8, .int .u64 z10, .int .u64 z12] := hb8
 refine ow_nil (tw_keep [(2, _), (3, _), (4, _), (6, _)] ⟨rfl, rfl, rfl, rfl, trivial⟩ ?_)
 refine tw_b (tw_region (ow_g (g_fold (j := 5) (g_addw rfl rfl) (by decide)) rfl ?_))
 refine ow_g (g_mv rfl) rfl (ow_nil (tw_lp (tw_seq (tw_region (ow_g (g_lt rfl rfl) rfl ?_)))))
 refine ow_nil (tw_seq (tw_ifF rfl (by decide) ?_))
 refine tw_exit rfl ?_
 refine tw_seq (tw_region (ow_g (g_ldab (cs' := [_, _, _, _, _]) ag26 ty26 rfl hb8 rfl rfl) rfl ?_))
 refine ow_d (d_call (vs := [_]) rfl (carry_any (vecN [z4, z6, z8, z10, z12]) (In.wk r1 rfl) (In.wk r2 rfl) (In.wk r3 rfl) (In.wk r4 rfl) (In.wk r5 rfl) _)) rfl ?_
 rintro _ w14 ⟨hh1, c01, c11, c21, c31, c41, rfl, e01, e11, e21, e31, e41, g01, g11, g21, g31, g41, gv1, k14⟩
 replace hb2 := hb2.keep0 k14
 replace hb3 := hb3.keep0 k14
 replace hb8 := hb8.keep0 k14
 replace hB := hB.trans k14
 replace e01 : c01 = z4 / 2251799813685248 := e01
 replace e11 : c11 = (z6 + c01) / 2251799813685248 := e11
 replace e21 : c21 = (z8 + c11) / 2251799813685248 := e21
 replace e31 : c31 = (z10 + c21) / 2251799813685248 := e31
 replace e41 : c41 = (z12 + c31) / 2251799813685248 := e41
 replace g01 : hh1 0 = z4 % 2251799813685248 + 19 * c41 := g01
 replace g11 : hh1 1 = (z6 + c01) % 2251799813685248 := g11
 replace g21 : hh1 2 = (z8 + c11) % 2251799813685248 := g21
 replace g31 : hh1 3 = (z10 + c21) % 2251799813685248 := g31
 replace g41 : hh1 4 = (z12 + c31) % 2251799813685248 := g41
 replace gv1 : val5 hh1 + c41 * 57896044618658097711785492504343953926634992332820282019728792003956564819949 = z4 + z6 * 2251799813685248 + z8 * 5070602400912917605986812821504 + z10 * 11417981541647679048466287755595961091061972992 + z12 * 25711008708143844408671393477458601640355247900524685364822016 := gv1
 obtain ⟨r6, r7, r8, r9, r10⟩ := carry_bounds (t := 2251799813685323) e01 e11 e21 e31 e41 g01 g11 g21 g31 g41 (In.wk r1 rfl : In _ 0 9007199254740990) (In.wk r2 rfl : In _ 0 9007199254740990) (In.wk r3 rfl : In _ 0 9007199254740990) (In.wk r4 rfl : In _ 0 9007199254740990) (In.wk r5 rfl : In _ 0 9007199254740990) rfl
 refine ow_d0 (d_sta ty26 rfl rfl rfl ivF_one hb3 rfl) ?_
 rintro _ w15 ⟨hb9, k15, z14⟩
 replace hb2 := hb2.keep k15 (fun hm => absurd (List.mem_singleton.1 hm) ne_b2_b3)
 replace hb8 := hb8.keep k15 (fun hm => absurd (List.mem_singleton.1 hm) ne_b1_b3)
 replace hB := hB.new k15 (fun x hx => .inl ((List.mem_singleton.1 hx) ▸ ge_b3))
 clear z14
 replace hb9 : Bk w15 b3 _ [.int .u64 (hh1 0), .int .u64 (hh1 1), .int .u64 (hh1 2), .int .u64 (hh1 3), .int .u64 (hh1 4)] := hb9
 refine ow_nil (tw_retc hfin Try.results73 rfl (run_loadAgg ag26 ty26 ‹_› rfl)  ?_)
 simp only [Eqn, In] at h1 r1 h2 r2 h3 r3 h4 r4 h5 r5 f0 f1 f2 f3 f4 g0 g1 g2 g3 g4
 exact ⟨hh1, rfl, ⟨(In.wk r6 rfl), (In.wk r7 rfl), (In.wk r8 rfl), (In.wk r9 rfl), (In.wk r10 rfl), by rw [show val5 hh1 = val5 f + val5 g + (-c41) * 57896044618658097711785492504343953926634992332820282019728792003956564819949 from by unfold val5 at *; omega, fp_eq (b := val5 f + val5 g) (-c41) rfl, fp_add, hfv, hgv]⟩, hB⟩
set_option maxRecDepth 100000 in
theorem sub_any (f g : Nat → Int) (a b : Fp) (hf : El f a) (hg : El g b) (w : World) : Rets Try.prog 72 [.agg (iv .u64 5 f).toArray, .agg (iv .u64 5 g).toArray] w (fun v w' => ∃ h, v = .agg (iv .u64 5 h).toArray ∧ El h (a - b) ∧ Keep [] w w') := by
 have hB : Keep [] w w := Keep.refl _ _
 obtain ⟨f0, f1, f2, f3, f4, hfv⟩ := hf
 obtain ⟨g0, g1, g2, g3, g4, hgv⟩ := hg
 refine rets_of_tw Try.func72 rfl (by decide) Try.ntmps72 rfl (fun fin _ hfin => ?_)
 refine tw_seq (tw_region (ow_d (d_box (cs := [.int .u64 (f 0), .int .u64 (f 1), .int .u64 (f 2), .int .u64 (f 3), .int .u64 (f 4)]) rfl rfl) rfl ?_))
 rintro _ w1 ⟨b1, rfl, eb1, hb1, k1, z1⟩
 have ge_b1 : w.heap.size ≤ b1 := by have := hB.size; omega
 replace hB := hB.trans k1
 clear eb1 z1
 refine ow_d (d_box (cs := [.int .u64 (g 0), .int .u64 (g 1), .int .u64 (g 2), .int .u64 (g 3), .int .u64 (g 4)]) rfl rfl) rfl ?_
 rintro _ w2 ⟨b2, rfl, eb2, hb2, k2, z2⟩
 have ge_b2 : w.heap.size ≤ b2 := by have := hB.size; omega
 have ne_b1_b2 : b1 ≠ b2 := by have := hb1.lt; omega
 replace hb1 := hb1.keep0 k2
 replace hB := hB.trans k2
 clear eb2 z2
 refine ow_d (d_alloc ty26) rfl ?_
 rintro _ w3 ⟨b3, rfl, eb3, hb3, k3, z3⟩
 have ge_b3 : w.heap.size ≤ b3 := by have := hB.size; omega
 have ne_b1_b3 : b1 ≠ b3 := by have := hb1.lt; omega
 have ne_b2_b3 : b2 ≠ b3 := by have := hb2.lt; omega
 replace hb1 := hb1.keep0 k3
 replace hb2 := hb2.keep0 k3
 replace hB := hB.trans k3
 clear eb3 z3
 refine ow_nil (tw_seq (tw_region (ow_g (g_blda (idx := [0, 1, 2, 3, 4]) (xs := [.const (.int .u64 (4503599627370458)), .const (.int .u64 (4503599627370494)), .const (.int .u64 (4503599627370494)), .const (.int .u64 (4503599627370494)), .const (.int .u64 (4503599627370494))]) (vs := [_, _, _, _, _]) (css := [[.int .u64 4503599627370458], [.int .u64 4503599627370494], [.int .u64 4503599627370494], [.int .u64 4503599627370494], [.int .u64 4503599627370494]]) (out := [.int .u64 4503599627370458, .int .u64 4503599627370494, .int .u64 4503599627370494, .int .u64 4503599627370494, .int .u64 4503599627370494]) Try.underlying26 ty24 ty26 (arr_pls 5 1) rfl rfl ⟨rfl, rfl, rfl, rfl, rfl, trivial⟩ rfl rfl) rfl ?_)))
 refine ow_d (d_alloc ty26) rfl ?_
 rintro _ w4 ⟨b4, rfl, eb4, hb4, k4, z4⟩
 have ge_b4 : w.heap.size ≤ b4 := by have := hB.size; omega
 have ne_b1_b4 : b1 ≠ b4 := by have := hb1.lt; omega
 have ne_b2_b4 : b2 ≠ b4 := by have := hb2.lt; omega
 have ne_b3_b4 : b3 ≠ b4 := by have := hb3.lt; omega
 replace hb1 := hb1.keep0 k4
 replace hb2 := hb2.keep0 k4
 replace hb3 := hb3.keep0 k4
 replace hB := hB.trans k4
 clear eb4 z4
 refine ow_d0 (d_sta ty26 rfl rfl rfl (by simp only [List.forall_mem_cons]; refine ⟨rfl, rfl, rfl, rfl, rfl, fun v hv => by cases hv⟩) hb4 rfl) ?_
 rintro _ w5 ⟨hb5, k5, z5⟩
 replace hb1 := hb1.keep k5 (fun hm => absurd (List.mem_singleton.1 hm) ne_b1_b4)
 replace hb2 := hb2.keep k5 (fun hm => absurd (List.mem_singleton.1 hm) ne_b2_b4)
 replace hb3 := hb3.keep k5 (fun hm => absurd (List.mem_singleton.1 hm) ne_b3_b4)
 replace hB := hB.new k5 (fun x hx => .inl ((List.mem_singleton.1 hx) ▸ ge_b4))
 clear z5
 replace hb5 : Bk w5 b4 _ [.int .u64 4503599627370458, .int .u64 4503599627370494, .int .u64 4503599627370494, .int .u64 4503599627370494, .int .u64 4503599627370494] := hb5
 refine ow_nil (tw_seq (tw_region (ow_g (g_ldab (cs' := [_, _, _, _, _]) ag26 ty26 rfl hb2 rfl rfl) rfl ?_)))
 refine ow_d (d_call (vs := [_]) rfl (carry_any g (In.wk g0 rfl) (In.wk g1 rfl) (In.wk g2 rfl) (In.wk g3 rfl) (In.wk g4 rfl) _)) rfl ?_
 rintro _ w6 ⟨hh1, c01, c11, c21, c31, c41, rfl, e01, e11, e21, e31, e41, g01, g11, g21, g31, g41, gv1, k6⟩
 replace hb1 := hb1.keep0 k6
 replace hb2 := hb2.keep0 k6
 replace hb3 := hb3.keep0 k6
 replace hb5 := hb5.keep0 k6
 replace hB := hB.trans k6
 obtain ⟨r1, r2, r3, r4, r5⟩ := carry_bounds (t := 2251799813685285) e01 e11 e21 e31 e41 g01 g11 g21 g31 g41 (In.wk g0 rfl : In _ 0 4503599627370495) (In.wk g1 rfl : In _ 0 4503599627370495) (In.wk g2 rfl : In _ 0 4503599627370495) (In.wk g3 rfl : In _ 0 4503599627370495) (In.wk g4 rfl : In _ 0 4503599627370495) rfl
 refine ow_d0 (d_sta ty26 rfl rfl rfl ivF_one hb2 rfl) ?_
 rintro _ w7 ⟨hb6, k7, z6⟩
 replace hb1 := hb1.keep k7 (fun hm => absurd (List.mem_singleton.1 hm) ne_b1_b2)
 replace hb3 := hb3.keep k7 (fun hm => absurd (List.mem_singleton.1 hm) (Ne.symm ne_b2_b3))
 replace hb5 := hb5.keep k7 (fun hm => absurd (List.mem_singleton.1 hm) (Ne.symm ne_b2_b4))
 replace hB := hB.new k7 (fun x hx => .inl ((List.mem_singleton.1 hx) ▸ ge_b2))
 clear z6
 replace hb6 : Bk w7 b2 _ [.int .u64 (hh1 0), .int .u64 (hh1 1), .int .u64 (hh1 2), .int .u64 (hh1 3), .int .u64 (hh1 4)] := hb6
 refine ow_nil (tw_seq (tw_seq (tw_region (ow_g (g_mv rfl) rfl (ow_nil (tw_block ?_))))))
 refine tw_unroll 5 ?_
 refine tw_seq (tw_region (ow_g (g_lt rfl rfl) rfl ?_))
 refine ow_nil (tw_seq (tw_ifT rfl (by decide) ?_))
 refine tw_skip (tw_seq (tw_block (tw_seq (tw_region (ow_g (g_mv rfl) rfl (ow_g (g_as rfl) rfl ?_))))))
 refine ow_nil (tw_still 11 mixed (by decide +kernel) (fun w8 k8 => ?_))
 replace hb1 := hb1.keep0 k8
 replace hb3 := hb3.keep0 k8
 replace hb5 := hb5.keep0 k8
 replace hb6 := hb6.keep0 k8
 replace hB := hB.trans k8
 refine sw_g (g_mv rfl) rfl (sw_g (g_ixa Try.underlying26 ty24 rfl rfl (by decide)) rfl ?_)
 refine sw_g (g_ldb sc24 rfl hb1 rfl) rfl ?_
 refine sw_g (g_mv rfl) rfl (sw_g (g_ixa Try.underlying26 ty24 rfl rfl (by decide)) rfl ?_)
 refine sw_g (g_ldb sc24 rfl hb5 rfl) rfl ?_
 refine sw_g (g_mv rfl) rfl (sw_g (g_ixa Try.underlying26 ty24 rfl rfl (by decide)) rfl ?_)
 refine sw_g (g_ldb sc24 rfl hb6 rfl) rfl ?_
 refine sw_gx (e' := 4503599627370458 - (hh1 0)) (lo := 2251799813685173) (hi := 4503599627370458) (g_subw rfl rfl) (wrap_fit (in_sub (in_c 4503599627370458) r1) rfl) (In.wk (in_sub (in_c 4503599627370458) r1) rfl) rfl (fun z7 h1 r6 => ?_)
 refine sw_gx (e' := (f 0) + z7) (lo := 2251799813685173) (hi := 9007199254740953) (g_addw rfl rfl) (wrap_fit (in_add f0 r6) rfl) (In.wk (in_add f0 r6) rfl) rfl (fun z8 h2 r7 => ?_)
 refine sw_nil ?_
 refine ow_g (g_ixa Try.underlying26 ty24 rfl rfl (by decide)) rfl ?_
 refine ow_d0 (d_st ty24 rfl rfl rfl hb1 rfl) ?_
 rintro _ w9 ⟨hb7, k9, z9⟩
 replace hb3 := hb3.keep k9 (fun hm => absurd (List.mem_singleton.1 hm) (Ne.symm ne_b1_b3))
 replace hb5 := hb5.keep k9 (fun hm => absurd (List.mem_singleton.1 hm) (Ne.symm ne_b1_b4))
 replace hb6 := hb6.keep k9 (fun hm => absurd (List.mem_singleton.1 hm) (Ne.symm ne_b1_b2))
 replace hB := hB.new k9 (fun x hx => .inl ((List.mem_singleton.1 hx) ▸ ge_b1))
 clear z9
 replace hb7 : Bk w9 b1 _ [.int .u64 z8, .int .u64 (f 1), .int .u64 (f 2), .int .u64 (f 3), .int .u64 (f 4)] := hb7
 refine ow_nil (tw_keep [(2, _), (3, _), (4, _), (5, _), (10, _)] ⟨rfl, rfl, rfl, rfl, rfl, trivial⟩ ?_)
 refine tw_b (tw_region (ow_g (g_fold (j := 1) (g_addw rfl rfl) (by decide)) rfl ?_))
 refine ow_g (g_mv rfl) rfl (ow_nil (tw_lp (tw_seq (tw_region (ow_g (g_lt rfl rfl) rfl ?_)))))
 refine ow_nil (tw_seq (tw_ifT rfl (by decide) ?_))
 refine tw_skip (tw_seq (tw_block (tw_seq (tw_region (ow_g (g_mv rfl) rfl (ow_g (g_as rfl) rfl ?_))))))
 refine ow_nil (tw_still 11 mixed (by decide +kernel) (fun w10 k10 => ?_))
 replace hb3 := hb3.keep0 k10
 replace hb5 := hb5.keep0 k10
 replace hb6 := hb6.keep0 k10
 replace hb7 := hb7.keep0 k10
 replace hB := hB.trans k10
 refine sw_g (g_mv rfl) rfl (sw_g (g_ixa Try.underlying26 ty24 rfl rfl (by decide)) rfl ?_)
 refine sw_g (g_ldb sc24 rfl hb7 rfl) rfl ?_
 refine sw_g (g_mv rfl) rfl (sw_g (g_ixa Try.underlying26 ty24 rfl rfl (by decide)) rfl ?_)
 refine sw_g (g_ldb sc24 rfl hb5 rfl) rfl ?_
 refine sw_g (g_mv rfl) rfl (sw_g (g_ixa Try.underlying26 ty24 rfl rfl (by decide)) rfl ?_)
 refine sw_g (g_ldb sc24 rfl hb6 rfl) rfl ?_
 refine sw_gx (e' := 4503599627370494 - (hh1 1)) (lo := 2251799813685247) (hi := 4503599627370494) (g_subw rfl rfl) (wrap_fit (in_sub (in_c 4503599627370494) r2) rfl) (In.wk (in_sub (in_c 4503599627370494) r2) rfl) rfl (fun z10 h3 r8 => ?_)
 refine sw_gx (e' := (f 1) + z10) (lo := 2251799813685247) (hi := 9007199254740989) (g_addw rfl rfl) (wrap_fit (in_add f1 r8) rfl) (In.wk (in_add f1 r8) rfl) rfl (fun z11 h4 r9 => ?_)
 refine sw_nil ?_
 refine ow_g (g_ixa Try.underlying26 ty24 rfl rfl (by decide)) rfl ?_
 refine ow_d0 (d_st ty24 rfl rfl rfl hb7 rfl) ?_
 rintro _ w11 ⟨hb8, k11, z12⟩
 replace hb3 := hb3.keep k11 (fun hm => absurd (List.mem_singleton.1 hm) (Ne.symm ne_b1_b3))
 replace hb5 := hb5.keep k11 (fun hm => absurd (List.mem_singleton.1 hm) (Ne.symm ne_b1_b4))
 replace hb6 := hb6.keep k11 (fun hm => absurd (List.mem_singleton.1 hm) (Ne.symm ne_b1_b2))
 replace hB := hB.new k11 (fun x hx => .inl ((List.mem_singleton.1 hx) ▸ ge_b1))
 clear z12
 replace hb8 : Bk w11 b1 _ [.int .u64 z8, .int .u64 z11, .int .u64 (f 2), .int .u64 (f 3), .int .u64 (f 4)] := hb8
 refine ow_nil (tw_keep [(2, _), (3, _), (4, _), (5, _), (10, _)] ⟨rfl, rfl, rfl, rfl, rfl, trivial⟩ ?_)
 refine tw_b (tw_region (ow_g (g_fold (j := 2) (g_addw rfl rfl) (by decide)) rfl ?_))
 refine ow_g (g_mv rfl) rfl (ow_nil (tw_lp (tw_seq (tw_region (ow_g (g_lt rfl rfl) rfl ?_)))))
 refine ow_nil (tw_seq (tw_ifT rfl (by decide) ?_))
 refine tw_skip (tw_seq (tw_block (tw_seq (tw_region (ow_g (g_mv rfl) rfl (ow_g (g_as rfl) rfl ?_))))))
 refine ow_nil (tw_still 11 mixed (by decide +kernel) (fun w12 k12 => ?_))
 replace hb3 := hb3.keep0 k12
 replace hb5 := hb5.keep0 k12
 replace hb6 := hb6.keep0 k12
 replace hb8 := hb8.keep0 k12
 replace hB := hB.trans k12
 refine sw_g (g_mv rfl) rfl (sw_g (g_ixa Try.underlying26 ty24 rfl rfl (by decide)) rfl ?_)
 refine sw_g (g_ldb sc24 rfl hb8 rfl) rfl ?_
 refine sw_g (g_mv rfl) rfl (sw_g (g_ixa Try.underlying26 ty24 rfl rfl (by decide)) rfl ?_)
 refine sw_g (g_ldb sc24 rfl hb5 rfl) rfl ?_
 refine sw_g (g_mv rfl) rfl (sw_g (g_ixa Try.underlying26 ty24 rfl rfl (by decide)) rfl ?_)
 refine sw_g (g_ldb sc24 rfl hb6 rfl) rfl ?_
 refine sw_gx (e' := 4503599627370494 - (hh1 2)) (lo := 2251799813685247) (hi := 4503599627370494) (g_subw rfl rfl) (wrap_fit (in_sub (in_c 4503599627370494) r3) rfl) (In.wk (in_sub (in_c 4503599627370494) r3) rfl) rfl (fun z13 h5 r10 => ?_)
 refine sw_gx (e' := (f 2) + z13) (lo := 2251799813685247) (hi := 9007199254740989) (g_addw rfl rfl) (wrap_fit (in_add f2 r10) rfl) (In.wk (in_add f2 r10) rfl) rfl (fun z14 h6 r11 => ?_)
 refine sw_nil ?_
 refine ow_g (g_ixa Try.underlying26 ty24 rfl rfl (by decide)) rfl ?_
 refine ow_d0 (d_st ty24 rfl rfl rfl hb8 rfl) ?_
 rintro _ w13 ⟨hb9, k13, z15⟩
 replace hb3 := hb3.keep k13 (fun hm => absurd (List.mem_singleton.1 hm) (Ne.symm ne_b1_b3))
 replace hb5 := hb5.keep k13 (fun hm => absurd (List.mem_singleton.1 hm) (Ne.symm ne_b1_b4))
 replace hb6 := hb6.keep k13 (fun hm => absurd (List.mem_singleton.1 hm) (Ne.symm ne_b1_b2))
 replace hB := hB.new k13 (fun x hx => .inl ((List.mem_singleton.1 hx) ▸ ge_b1))
 clear z15
 replace hb9 : Bk w13 b1 _ [.int .u64 z8, .int .u64 z11, .int .u64 z14, .int .u64 (f 3), .int .u64 (f 4)] := hb9
 refine ow_nil (tw_keep [(2, _), (3, _), (4, _), (5, _), (10, _)] ⟨rfl, rfl, rfl, rfl, rfl, trivial⟩ ?_)
 refine tw_b (tw_region (ow_g (g_fold (j := 3) (g_addw rfl rfl) (by decide)) rfl ?_))
 refine ow_g (g_mv rfl) rfl (ow_nil (tw_lp (tw_seq (tw_region (ow_g (g_lt rfl rfl) rfl ?_)))))
 refine ow_nil (tw_seq (tw_ifT rfl (by decide) ?_))
 refine tw_skip (tw_seq (tw_block (tw_seq (tw_region (ow_g (g_mv rfl) rfl (ow_g (g_as rfl) rfl ?_))))))
 refine ow_nil (tw_still 11 mixed (by decide +kernel) (fun w14 k14 => ?_))
 replace hb3 := hb3.keep0 k14
 replace hb5 := hb5.keep0 k14
 replace hb6 := hb6.keep0 k14
 replace hb9 := hb9.keep0 k14
 replace hB := hB.trans k14
 refine sw_g (g_mv rfl) rfl (sw_g (g_ixa Try.underlying26 ty24 rfl rfl (by decide)) rfl ?_)
 refine sw_g (g_ldb sc24 rfl hb9 rfl) rfl ?_
 refine sw_g (g_mv rfl) rfl (sw_g (g_ixa Try.underlying26 ty24 rfl rfl (by decide)) rfl ?_)
 refine sw_g (g_ldb sc24 rfl hb5 rfl) rfl ?_
 refine sw_g (g_mv rfl) rfl (sw_g (g_ixa Try.underlying26 ty24 rfl rfl (by decide)) rfl ?_)
 refine sw_g (g_ldb sc24 rfl hb6 rfl) rfl ?_
 refine sw_gx (e' := 4503599627370494 - (hh1 3)) (lo := 2251799813685247) (hi := 4503599627370494) (g_subw rfl rfl) (wrap_fit (in_sub (in_c 4503599627370494) r4) rfl) (In.wk (in_sub (in_c 4503599627370494) r4) rfl) rfl (fun z16 h7 r12 => ?_)
 refine sw_gx (e' := (f 3) + z16) (lo := 2251799813685247) (hi := 9007199254740989) (g_addw rfl rfl) (wrap_fit (in_add f3 r12) rfl) (In.wk (in_add f3 r12) rfl) rfl (fun z17 h8 r13 => ?_)
 refine sw_nil ?_
 refine ow_g (g_ixa Try.underlying26 ty24 rfl rfl (by decide)) rfl ?_
 refine ow_d0 (d_st ty24 rfl rfl rfl hb9 rfl) ?_
 rintro _ w15 ⟨hb10, k15, z18⟩
 replace hb3 := hb3.keep k15 (fun hm => absurd (List.mem_singleton.1 hm) (Ne.symm ne_b1_b3))
 replace hb5 := hb5.keep k15 (fun hm => absurd (List.mem_singleton.1 hm) (Ne.symm ne_b1_b4))
 replace hb6 := hb6.keep k15 (fun hm => absurd (List.mem_singleton.1 hm) (Ne.symm ne_b1_b2))
 replace hB := hB.new k15 (fun x hx => .inl ((List.mem_singleton.1 hx) ▸ ge_b1))
 clear z18
 replace hb10 : Bk w15 b1 _ [.int .u64 z8, .int .u64 z11, .int .u64 z14, .int .u64 z17, .int .u64 (f 4)] := hb10
 refine ow_nil (tw_keep [(2, _), (3, _), (4, _), (5, _), (10, _)] ⟨rfl, rfl, rfl, rfl, rfl, trivial⟩ ?_)
 refine tw_b (tw_region (ow_g (g_fold (j := 4) (g_addw rfl rfl) (by decide)) rfl ?_))
 refine ow_g (g_mv rfl) rfl (ow_nil (tw_lp (tw_seq (tw_region (ow_g (g_lt rfl rfl) rfl ?_)))))
 refine ow_nil (tw_seq (tw_ifT rfl (by decide) ?_))
 refine tw_skip (tw_seq (tw_block (tw_seq (tw_region (ow_g (g_mv rfl) rfl (ow_g (g_as rfl) rfl ?_))))))
 refine ow_nil (tw_still 11 mixed (by decide +kernel) (fun w16 k16 => ?_))
 replace hb3 := hb3.keep0 k16
 replace hb5 := hb5.keep0 k16
 replace hb6 := hb6.keep0 k16
 replace hb10 := hb10.keep0 k16
 replace hB := hB.trans k16
 refine sw_g (g_mv rfl) rfl (sw_g (g_ixa Try.underlying26 ty24 rfl rfl (by decide)) rfl ?_)
 refine sw_g (g_ldb sc24 rfl hb10 rfl) rfl ?_
 refine sw_g (g_mv rfl) rfl (sw_g (g_ixa Try.underlying26 ty24 rfl rfl (by decide)) rfl ?_)
 refine sw_g (g_ldb sc24 rfl hb5 rfl) rfl ?_
 refine sw_g (g_mv rfl) rfl (sw_g (g_ixa Try.underlying26 ty24 rfl rfl (by decide)) rfl ?_)
 refine sw_g (g_ldb sc24 rfl hb6 rfl) rfl ?_
 refine sw_gx (e' := 4503599627370494 - (hh1 4)) (lo := 2251799813685247) (hi := 4503599627370494) (g_subw rfl rfl) (wrap_fit (in_sub (in_c 4503599627370494) r5) rfl) (In.wk (in_sub (in_c 4503599627370494) r5) rfl) rfl (fun z19 h9 r14 => ?_)
 refine sw_gx (e' := (f 4) + z19) (lo := 2251799813685247) (hi := 9007199254740989) (g_addw rfl rfl) (wrap_fit (in_add f4 r14) rfl) (In.wk (in_add f4 r14) rfl) rfl (fun z20 h10 r15 => ?_)
 refine sw_nil ?_
 refine ow_g (g_ixa Try.underlying26 ty24 rfl rfl (by decide)) rfl ?_
 refine ow_d0 (d_st ty24 rfl rfl rfl hb10 rfl) ?_
 rintro _ w17 ⟨hb11, k17, z21⟩
 replace hb3 := hb3.keep k17 (fun hm => absurd (List.mem_singleton.1 hm) (Ne.symm ne_b1_b3))
 replace hb5 := hb5.keep k17 (fun hm => absurd (List.mem_singleton.1 hm) (Ne.symm ne_b1_b4))
 replace hb6 := hb6.keep k17 (fun hm => absurd (List.mem_singleton.1 hm) (Ne.symm ne_b1_b2))
 replace hB := hB.new k17 (fun x hx => .inl ((List.mem_singleton.1 hx) ▸ ge_b1))
 clear z21
 replace hb11 : Bk w17 b1 _ [.int .u64 z8, .int .u64 z11, .int .u64 z14, .int .u64 z17, .int .u64 z20] := hb11
 refine ow_nil (tw_keep [(2, _), (3, _), (4, _), (5, _), (10, _)] ⟨rfl, rfl, rfl, rfl, rfl, trivial⟩ ?_)
 refine tw_b (tw_region (ow_g (g_fold (j := 5) (g_addw rfl rfl) (by decide)) rfl ?_))
 refine ow_g (g_mv rfl) rfl (ow_nil (tw_lp (tw_seq (tw_region (ow_g (g_lt rfl rfl) rfl ?_)))))
 refine ow_nil (tw_seq (tw_ifF rfl (by decide) ?_))
 refine tw_exit rfl ?_
 refine tw_seq (tw_region (ow_g (g_ldab (cs' := [_, _, _, _, _]) ag26 ty26 rfl hb11 rfl rfl) rfl ?_))
 refine ow_d (d_call (vs := [_]) rfl (carry_any (vecN [z8, z11, z14, z17, z20]) (In.wk r7 rfl) (In.wk r9 rfl) (In.wk r11 rfl) (In.wk r13 rfl) (In.wk r15 rfl) _)) rfl ?_
 rintro _ w18 ⟨hh2, c02, c12, c22, c32, c42, rfl, e02, e12, e22, e32, e42, g02, g12, g22, g32, g42, gv2, k18⟩
 replace hb3 := hb3.keep0 k18
 replace hb5 := hb5.keep0 k18
 replace hb6 := hb6.keep0 k18
 replace hb11 := hb11.keep0 k18
 replace hB := hB.trans k18
 replace e02 : c02 = z8 / 2251799813685248 := e02
 replace e12 : c12 = (z11 + c02) / 2251799813685248 := e12
 replace e22 : c22 = (z14 + c12) / 2251799813685248 := e22
 replace e32 : c32 = (z17 + c22) / 2251799813685248 := e32
 replace e42 : c42 = (z20 + c32) / 2251799813685248 := e42
 replace g02 : hh2 0 = z8 % 2251799813685248 + 19 * c42 := g02
 replace g12 : hh2 1 = (z11 + c02) % 2251799813685248 := g12
 replace g22 : hh2 2 = (z14 + c12) % 2251799813685248 := g22
 replace g32 : hh2 3 = (z17 + c22) % 2251799813685248 := g32
 replace g42 : hh2 4 = (z20 + c32) % 2251799813685248 := g42
 replace gv2 : val5 hh2 + c42 * 57896044618658097711785492504343953926634992332820282019728792003956564819949 = z8 + z11 * 2251799813685248 + z14 * 5070602400912917605986812821504 + z17 * 11417981541647679048466287755595961091061972992 + z20 * 25711008708143844408671393477458601640355247900524685364822016 := gv2
 obtain ⟨r16, r17, r18, r19, r20⟩ := carry_bounds (t := 2251799813685323) e02 e12 e22 e32 e42 g02 g12 g22 g32 g42 (In.wk r7 rfl : In _ 0 9007199254740953) (In.wk r9 rfl : In _ 0 9007199254740989) (In.wk r11 rfl : In _ 0 9007199254740989) (In.wk r13 rfl : In _ 0 9007199254740989) (In.wk r15 rfl : In _ 0 9007199254740989) rfl
 refine ow_d0 (d_sta ty26 rfl rfl rfl ivF_one hb3 rfl) ?_
 rintro _ w19 ⟨hb12, k19, z22⟩
 replace hb5 := hb5.keep k19 (fun hm => absurd (List.mem_singleton.1 hm) (Ne.symm ne_b3_b4))
 replace hb6 := hb6.keep k19 (fun hm => absurd (List.mem_singleton.1 hm) ne_b2_b3)
 replace hb11 := hb11.keep k19 (fun hm => absurd (List.mem_singleton.1 hm) ne_b1_b3)
 replace hB := hB.new k19 (fun x hx => .inl ((List.mem_singleton.1 hx) ▸ ge_b3))
 clear z22
 replace hb12 : Bk w19 b3 _ [.int .u64 (hh2 0), .int .u64 (hh2 1), .int .u64 (hh2 2), .int .u64 (hh2 3), .int .u64 (hh2 4)] := hb12
 refine ow_nil (tw_retc hfin Try.results72 rfl (run_loadAgg ag26 ty26 ‹_› rfl)  ?_)
 simp only [Eqn, In] at h1 r6 h2 r7 h3 r8 h4 r9 h5 r10 h6 r11 h7 r12 h8 r13 h9 r14 h10 r15 f0 f1 f2 f3 f4 g0 g1 g2 g3 g4
 exact ⟨hh2, rfl, ⟨(In.wk r16 rfl), (In.wk r17 rfl), (In.wk r18 rfl), (In.wk r19 rfl), (In.wk r20 rfl), by rw [show val5 hh2 = val5 f - val5 g + (2 - c42 + c41) * 57896044618658097711785492504343953926634992332820282019728792003956564819949 from by unfold val5 at *; omega, fp_eq (b := val5 f - val5 g) (2 - c42 + c41) rfl, fp_sub, hfv, hgv]⟩, hB⟩
end Go.Proofs.Ytkngeapegpehpaa.W
namespace Go.Proofs.Ytkngeapegpehpaa.W
open Go Go.Eng Go.Byt
set_option linter.unusedVariables false
set_option linter.unusedSimpArgs false
open Go.Fld Go.Ed
set_option maxRecDepth 100000 in
set_option maxHeartbeats 1000000 in
theorem mul_any (f g : Nat → Int) (a b : Fp) (hf : El f a) (hg : El g b) (w : World) : Rets Try.prog 70 [.agg (iv .u64 5 f).toArray, .agg (iv .u64 5 g).toArray] w (fun v w' => ∃ h, v = .agg (iv .u64 5 h).toArray ∧ El h (a * b) ∧ Keep [] w w') := by
 have hB : Keep [] w w := Keep.refl _ _
 obtain ⟨f0, f1, f2, f3, f4, hfv⟩ := hf
 obtain ⟨g0, g1, g2, g3, g4, hgv⟩ := hg
 refine rets_of_tw Try.func70 rfl (by decide) Try.ntmps70 rfl (fun fin _ hfin => ?_)
 refine tw_seq (tw_region (ow_d (d_box (cs := [.int .u64 (f 0), .int .u64 (f 1), .int .u64 (f 2), .int .u64 (f 3), .int .u64 (f 4)]) rfl rfl) rfl ?_))
 rintro _ w1 ⟨b1, rfl, eb1, hb1, k1, z1⟩
 have ge_b1 : w.heap.size ≤ b1 := by have := hB.size; omega
 replace hB := hB.trans k1
 clear eb1 z1
 refine ow_d (d_box (cs := [.int .u64 (g 0), .int .u64 (g 1), .int .u64 (g 2), .int .u64 (g 3), .int .u64 (g 4)]) rfl rfl) rfl ?_
 rintro _ w2 ⟨b2, rfl, eb2, hb2, k2, z2⟩
 have ge_b2 : w.heap.size ≤ b2 := by have := hB.size; omega
 have ne_b1_b2 : b1 ≠ b2 := by have := hb1.lt; omega
 replace hb1 := hb1.keep0 k2
 replace hB := hB.trans k2
 clear eb2 z2
 refine ow_d (d_alloc ty26) rfl ?_
 rintro _ w3 ⟨b3, rfl, eb3, hb3, k3, z3⟩
 have ge_b3 : w.heap.size ≤ b3 := by have := hB.size; omega
 have ne_b1_b3 : b1 ≠ b3 := by have := hb1.lt; omega
 have ne_b2_b3 : b2 ≠ b3 := by have := hb2.lt; omega
 replace hb1 := hb1.keep0 k3
 replace hb2 := hb2.keep0 k3
 replace hB := hB.trans k3
 clear eb3 z3
 refine ow_nil (tw_seq (tw_stillA mixed (by decide +kernel) (fun w4 k4 => ?_)))
 replace hb1 := hb1.keep0 k4
 replace hb2 := hb2.keep0 k4
 replace hb3 := hb3.keep0 k4
 replace hB := hB.trans k4
 refine sw_g (g_ixa Try.underlying26 ty24 rfl rfl (by decide)) rfl ?_
 refine sw_g (g_ldb sc24 rfl hb2 rfl) rfl ?_
 refine sw_gx (e' := 19 * (g 1)) (lo := 0) (hi := 85568392920039405) (g_mulw rfl rfl) (wrap_fit (in_cmul g1 (by decide)) rfl) (In.wk (in_cmul g1 (by decide)) rfl) rfl (fun z4 h1 r1 => ?_)
 refine sw_g (g_ixa Try.underlying26 ty24 rfl rfl (by decide)) rfl ?_
 refine sw_g (g_ldb sc24 rfl hb2 rfl) rfl ?_
 refine sw_gx (e' := 19 * (g 2)) (lo := 0) (hi := 85568392920039405) (g_mulw rfl rfl) (wrap_fit (in_cmul g2 (by decide)) rfl) (In.wk (in_cmul g2 (by decide)) rfl) rfl (fun z5 h2 r2 => ?_)
 refine sw_g (g_ixa Try.underlying26 ty24 rfl rfl (by decide)) rfl ?_
 refine sw_g (g_ldb sc24 rfl hb2 rfl) rfl ?_
 refine sw_gx (e' := 19 * (g 3)) (lo := 0) (hi := 85568392920039405) (g_mulw rfl rfl) (wrap_fit (in_cmul g3 (by decide)) rfl) (In.wk (in_cmul g3 (by decide)) rfl) rfl (fun z6 h3 r3 => ?_)
 refine sw_g (g_ixa Try.underlying26 ty24 rfl rfl (by decide)) rfl ?_
 refine sw_g (g_ldb sc24 rfl hb2 rfl) rfl ?_
 refine sw_gx (e' := 19 * (g 4)) (lo := 0) (hi := 85568392920039405) (g_mulw rfl rfl) (wrap_fit (in_cmul g4 (by decide)) rfl) (In.wk (in_cmul g4 (by decide)) rfl) rfl (fun z7 h4 r4 => ?_)
 refine sw_g (g_as rfl) rfl (sw_g (g_as rfl) rfl (sw_g (g_as rfl) rfl (sw_g (g_as rfl) rfl (sw_nil ?_))))
 refine ow_nil (tw_keep [(2, _), (3, _), (4, _), (5, _), (6, _), (7, _), (8, _)] ⟨rfl, rfl, rfl, rfl, rfl, rfl, rfl, trivial⟩ ?_)
 refine tw_seq ?_
 have gs1 := hB.size
 have lt1 := hb1.lt
 have lt2 := hb2.lt
 have lt3 := hb3.lt
 refine tw_planA 122 [0, 1, 2, 3, 4, 6, 7, 8, 10, 11, 12, 14, 15, 16, 18, 19, 20, 22, 23, 24, 25, 26, 28, 29, 30, 31, 33, 34, 35, 37, 38, 39, 41, 42, 43, 45, 46, 47, 48, 49, 51, 52, 53, 54, 56, 57, 58, 59, 61, 62, 63, 65, 66, 67, 69, 70, 71, 72, 73, 75, 76, 77, 78, 80, 81, 82, 83, 85, 86, 87, 88, 90, 91, 92, 94, 95, 96, 97, 98, 100, 101, 102, 103, 105, 106, 107, 108, 110, 111, 112, 113, 115, 116, 117, 118, 5, 9, 13, 17, 21, 27, 32, 36, 40, 44, 50, 55, 60, 64, 68, 74, 79, 84, 89, 93, 99, 104, 109, 114, 119, 120] [5, 9, 13, 17, 21, 27, 32, 36, 40, 44, 50, 55, 60, 64, 68, 74, 79, 84, 89, 93, 99, 104, 109, 114, 119] [] [(121, 108, [.int .u64 0, .int .u64 0, .int .u64 0, .int .u64 0, .int .u64 0, .int .u64 0, .int .u64 0, .int .u64 0, .int .u64 0, .int .u64 0])] mixed [(2, _), (3, _), (8, _), (7, _), (6, _), (5, _), (4, _)] ⟨rfl, rfl, rfl, rfl, rfl, rfl, rfl, trivial⟩ (by decide +kernel) (by decide) (by decide) ?_ (fun x hx => by cases hx) rfl (fun w5 k5 => ?_)
 · simp only [List.forall_mem_cons]; exact ⟨⟨_, _, _, _, _, _, rfl, ty108⟩, fun q hq => by cases hq⟩
 replace hb1 := hb1.keep0 k5
 replace hb2 := hb2.keep0 k5
 replace hb3 := hb3.keep0 k5
 replace hB := hB.trans k5
 refine pa_g [] rfl rfl trivial rfl (fun W' kk => g_bld (idx := []) (xs := []) (vs := []) (css := []) (out := [_, _]) pl106 ty106 rfl rfl trivial rfl rfl) ?_
 refine pa_g [(2, _)] rfl rfl ⟨rfl, trivial⟩ rfl (fun W' kk => g_ixa Try.underlying26 ty24 rfl rfl (by decide)) ?_
 refine pa_g [(29, _)] rfl rfl ⟨rfl, trivial⟩ rfl (fun W' kk => g_ldb sc24 rfl (Bk.keep0 hb1 kk) rfl) ?_
 refine pa_g [(3, _)] rfl rfl ⟨rfl, trivial⟩ rfl (fun W' kk => g_ixa Try.underlying26 ty24 rfl rfl (by decide)) ?_
 refine pa_g [(31, _)] rfl rfl ⟨rfl, trivial⟩ rfl (fun W' kk => g_ldb sc24 rfl (Bk.keep0 hb2 kk) rfl) ?_
 refine pa_g [(2, _)] rfl rfl ⟨rfl, trivial⟩ rfl (fun W' kk => g_ixa Try.underlying26 ty24 rfl rfl (by decide)) ?_
 refine pa_g [(34, _)] rfl rfl ⟨rfl, trivial⟩ rfl (fun W' kk => g_ldb sc24 rfl (Bk.keep0 hb1 kk) rfl) ?_
 refine pa_g [(8, _)] rfl rfl ⟨rfl, trivial⟩ rfl (fun W' kk => g_mv rfl) ?_
 refine pa_g [(2, _)] rfl rfl ⟨rfl, trivial⟩ rfl (fun W' kk => g_ixa Try.underlying26 ty24 rfl rfl (by decide)) ?_
 refine pa_g [(38, _)] rfl rfl ⟨rfl, trivial⟩ rfl (fun W' kk => g_ldb sc24 rfl (Bk.keep0 hb1 kk) rfl) ?_
 refine pa_g [(7, _)] rfl rfl ⟨rfl, trivial⟩ rfl (fun W' kk => g_mv rfl) ?_
 refine pa_g [(2, _)] rfl rfl ⟨rfl, trivial⟩ rfl (fun W' kk => g_ixa Try.underlying26 ty24 rfl rfl (by decide)) ?_
 refine pa_g [(42, _)] rfl rfl ⟨rfl, trivial⟩ rfl (fun W' kk => g_ldb sc24 rfl (Bk.keep0 hb1 kk) rfl) ?_
 refine pa_g [(6, _)] rfl rfl ⟨rfl, trivial⟩ rfl (fun W' kk => g_mv rfl) ?_
 refine pa_g [(2, _)] rfl rfl ⟨rfl, trivial⟩ rfl (fun W' kk => g_ixa Try.underlying26 ty24 rfl rfl (by decide)) ?_
 refine pa_g [(46, _)] rfl rfl ⟨rfl, trivial⟩ rfl (fun W' kk => g_ldb sc24 rfl (Bk.keep0 hb1 kk) rfl) ?_
 refine pa_g [(5, _)] rfl rfl ⟨rfl, trivial⟩ rfl (fun W' kk => g_mv rfl) ?_
 refine pa_g [] rfl rfl trivial rfl (fun W' kk => g_bld (idx := []) (xs := []) (vs := []) (css := []) (out := [_, _]) pl106 ty106 rfl rfl trivial rfl rfl) ?_
 refine pa_g [(2, _)] rfl rfl ⟨rfl, trivial⟩ rfl (fun W' kk => g_ixa Try.underlying26 ty24 rfl rfl (by decide)) ?_
 refine pa_g [(51, _)] rfl rfl ⟨rfl, trivial⟩ rfl (fun W' kk => g_ldb sc24 rfl (Bk.keep0 hb1 kk) rfl) ?_
 refine pa_g [(3, _)] rfl rfl ⟨rfl, trivial⟩ rfl (fun W' kk => g_ixa Try.underlying26 ty24 rfl rfl (by decide)) ?_
 refine pa_g [(53, _)] rfl rfl ⟨rfl, trivial⟩ rfl (fun W' kk => g_ldb sc24 rfl (Bk.keep0 hb2 kk) rfl) ?_
 refine pa_g [(2, _)] rfl rfl ⟨rfl, trivial⟩ rfl (fun W' kk => g_ixa Try.underlying26 ty24 rfl rfl (by decide)) ?_
 refine pa_g [(56, _)] rfl rfl ⟨rfl, trivial⟩ rfl (fun W' kk => g_ldb sc24 rfl (Bk.keep0 hb1 kk) rfl) ?_
 refine pa_g [(3, _)] rfl rfl ⟨rfl, trivial⟩ rfl (fun W' kk => g_ixa Try.underlying26 ty24 rfl rfl (by decide)) ?_
 refine pa_g [(58, _)] rfl rfl ⟨rfl, trivial⟩ rfl (fun W' kk => g_ldb sc24 rfl (Bk.keep0 hb2 kk) rfl) ?_
 refine pa_g [(2, _)] rfl rfl ⟨rfl, trivial⟩ rfl (fun W' kk => g_ixa Try.underlying26 ty24 rfl rfl (by decide)) ?_
 refine pa_g [(61, _)] rfl rfl ⟨rfl, trivial⟩ rfl (fun W' kk => g_ldb sc24 rfl (Bk.keep0 hb1 kk) rfl) ?_
 refine pa_g [(8, _)] rfl rfl ⟨rfl, trivial⟩ rfl (fun W' kk => g_mv rfl) ?_
 refine pa_g [(2, _)] rfl rfl ⟨rfl, trivial⟩ rfl (fun W' kk => g_ixa Try.underlying26 ty24 rfl rfl (by decide)) ?_
 refine pa_g [(65, _)] rfl rfl ⟨rfl, trivial⟩ rfl (fun W' kk => g_ldb sc24 rfl (Bk.keep0 hb1 kk) rfl) ?_
 refine pa_g [(7, _)] rfl rfl ⟨rfl, trivial⟩ rfl (fun W' kk => g_mv rfl) ?_
 refine pa_g [(2, _)] rfl rfl ⟨rfl, trivial⟩ rfl (fun W' kk => g_ixa Try.underlying26 ty24 rfl rfl (by decide)) ?_
 refine pa_g [(69, _)] rfl rfl ⟨rfl, trivial⟩ rfl (fun W' kk => g_ldb sc24 rfl (Bk.keep0 hb1 kk) rfl) ?_
 refine pa_g [(6, _)] rfl rfl ⟨rfl, trivial⟩ rfl (fun W' kk => g_mv rfl) ?_
 refine pa_g [] rfl rfl trivial rfl (fun W' kk => g_bld (idx := []) (xs := []) (vs := []) (css := []) (out := [_, _]) pl106 ty106 rfl rfl trivial rfl rfl) ?_
 refine pa_g [(2, _)] rfl rfl ⟨rfl, trivial⟩ rfl (fun W' kk => g_ixa Try.underlying26 ty24 rfl rfl (by decide)) ?_
 refine pa_g [(74, _)] rfl rfl ⟨rfl, trivial⟩ rfl (fun W' kk => g_ldb sc24 rfl (Bk.keep0 hb1 kk) rfl) ?_
 refine pa_g [(3, _)] rfl rfl ⟨rfl, trivial⟩ rfl (fun W' kk => g_ixa Try.underlying26 ty24 rfl rfl (by decide)) ?_
 refine pa_g [(76, _)] rfl rfl ⟨rfl, trivial⟩ rfl (fun W' kk => g_ldb sc24 rfl (Bk.keep0 hb2 kk) rfl) ?_
 refine pa_g [(2, _)] rfl rfl ⟨rfl, trivial⟩ rfl (fun W' kk => g_ixa Try.underlying26 ty24 rfl rfl (by decide)) ?_
 refine pa_g [(79, _)] rfl rfl ⟨rfl, trivial⟩ rfl (fun W' kk => g_ldb sc24 rfl (Bk.keep0 hb1 kk) rfl) ?_
 refine pa_g [(3, _)] rfl rfl ⟨rfl, trivial⟩ rfl (fun W' kk => g_ixa Try.underlying26 ty24 rfl rfl (by decide)) ?_
 refine pa_g [(81, _)] rfl rfl ⟨rfl, trivial⟩ rfl (fun W' kk => g_ldb sc24 rfl (Bk.keep0 hb2 kk) rfl) ?_
 refine pa_g [(2, _)] rfl rfl ⟨rfl, trivial⟩ rfl (fun W' kk => g_ixa Try.underlying26 ty24 rfl rfl (by decide)) ?_
 refine pa_g [(84, _)] rfl rfl ⟨rfl, trivial⟩ rfl (fun W' kk => g_ldb sc24 rfl (Bk.keep0 hb1 kk) rfl) ?_
 refine pa_g [(3, _)] rfl rfl ⟨rfl, trivial⟩ rfl (fun W' kk => g_ixa Try.underlying26 ty24 rfl rfl (by decide)) ?_
 refine pa_g [(86, _)] rfl rfl ⟨rfl, trivial⟩ rfl (fun W' kk => g_ldb sc24 rfl (Bk.keep0 hb2 kk) rfl) ?_
 refine pa_g [(2, _)] rfl rfl ⟨rfl, trivial⟩ rfl (fun W' kk => g_ixa Try.underlying26 ty24 rfl rfl (by decide)) ?_
 refine pa_g [(89, _)] rfl rfl ⟨rfl, trivial⟩ rfl (fun W' kk => g_ldb sc24 rfl (Bk.keep0 hb1 kk) rfl) ?_
 refine pa_g [(8, _)] rfl rfl ⟨rfl, trivial⟩ rfl (fun W' kk => g_mv rfl) ?_
 refine pa_g [(2, _)] rfl rfl ⟨rfl, trivial⟩ rfl (fun W' kk => g_ixa Try.underlying26 ty24 rfl rfl (by decide)) ?_
 refine pa_g [(93, _)] rfl rfl ⟨rfl, trivial⟩ rfl (fun W' kk => g_ldb sc24 rfl (Bk.keep0 hb1 kk) rfl) ?_
 refine pa_g [(7, _)] rfl rfl ⟨rfl, trivial⟩ rfl (fun W' kk => g_mv rfl) ?_
 refine pa_g [] rfl rfl trivial rfl (fun W' kk => g_bld (idx := []) (xs := []) (vs := []) (css := []) (out := [_, _]) pl106 ty106 rfl rfl trivial rfl rfl) ?_
 refine pa_g [(2, _)] rfl rfl ⟨rfl, trivial⟩ rfl (fun W' kk => g_ixa Try.underlying26 ty24 rfl rfl (by decide)) ?_
 refine pa_g [(98, _)] rfl rfl ⟨rfl, trivial⟩ rfl (fun W' kk => g_ldb sc24 rfl (Bk.keep0 hb1 kk) rfl) ?_
 refine pa_g [(3, _)] rfl rfl ⟨rfl, trivial⟩ rfl (fun W' kk => g_ixa Try.underlying26 ty24 rfl rfl (by decide)) ?_
 refine pa_g [(100, _)] rfl rfl ⟨rfl, trivial⟩ rfl (fun W' kk => g_ldb sc24 rfl (Bk.keep0 hb2 kk) rfl) ?_
 refine pa_g [(2, _)] rfl rfl ⟨rfl, trivial⟩ rfl (fun W' kk => g_ixa Try.underlying26 ty24 rfl rfl (by decide)) ?_
 refine pa_g [(103, _)] rfl rfl ⟨rfl, trivial⟩ rfl (fun W' kk => g_ldb sc24 rfl (Bk.keep0 hb1 kk) rfl) ?_
 refine pa_g [(3, _)] rfl rfl ⟨rfl, trivial⟩ rfl (fun W' kk => g_ixa Try.underlying26 ty24 rfl rfl (by decide)) ?_
 refine pa_g [(105, _)] rfl rfl ⟨rfl, trivial⟩ rfl (fun W' kk => g_ldb sc24 rfl (Bk.keep0 hb2 kk) rfl) ?_
 refine pa_g [(2, _)] rfl rfl ⟨rfl, trivial⟩ rfl (fun W' kk => g_ixa Try.underlying26 ty24 rfl rfl (by decide)) ?_
 refine pa_g [(108, _)] rfl rfl ⟨rfl, trivial⟩ rfl (fun W' kk => g_ldb sc24 rfl (Bk.keep0 hb1 kk) rfl) ?_
 refine pa_g [(3, _)] rfl rfl ⟨rfl, trivial⟩ rfl (fun W' kk => g_ixa Try.underlying26 ty24 rfl rfl (by decide)) ?_
 refine pa_g [(110, _)] rfl rfl ⟨rfl, trivial⟩ rfl (fun W' kk => g_ldb sc24 rfl (Bk.keep0 hb2 kk) rfl) ?_
 refine pa_g [(2, _)] rfl rfl ⟨rfl, trivial⟩ rfl (fun W' kk => g_ixa Try.underlying26 ty24 rfl rfl (by decide)) ?_
 refine pa_g [(113, _)] rfl rfl ⟨rfl, trivial⟩ rfl (fun W' kk => g_ldb sc24 rfl (Bk.keep0 hb1 kk) rfl) ?_
 refine pa_g [(3, _)] rfl rfl ⟨rfl, trivial⟩ rfl (fun W' kk => g_ixa Try.underlying26 ty24 rfl rfl (by decide)) ?_
 refine pa_g [(115, _)] rfl rfl ⟨rfl, trivial⟩ rfl (fun W' kk => g_ldb sc24 rfl (Bk.keep0 hb2 kk) rfl) ?_
 refine pa_g [(2, _)] rfl rfl ⟨rfl, trivial⟩ rfl (fun W' kk => g_ixa Try.underlying26 ty24 rfl rfl (by decide)) ?_
 refine pa_g [(118, _)] rfl rfl ⟨rfl, trivial⟩ rfl (fun W' kk => g_ldb sc24 rfl (Bk.keep0 hb1 kk) rfl) ?_
 refine pa_g [(8, _)] rfl rfl ⟨rfl, trivial⟩ rfl (fun W' kk => g_mv rfl) ?_
 refine pa_g [] rfl rfl trivial rfl (fun W' kk => g_bld (idx := []) (xs := []) (vs := []) (css := []) (out := [_, _]) pl106 ty106 rfl rfl trivial rfl rfl) ?_
 refine pa_g [(2, _)] rfl rfl ⟨rfl, trivial⟩ rfl (fun W' kk => g_ixa Try.underlying26 ty24 rfl rfl (by decide)) ?_
 refine pa_g [(123, _)] rfl rfl ⟨rfl, trivial⟩ rfl (fun W' kk => g_ldb sc24 rfl (Bk.keep0 hb1 kk) rfl) ?_
 refine pa_g [(3, _)] rfl rfl ⟨rfl, trivial⟩ rfl (fun W' kk => g_ixa Try.underlying26 ty24 rfl rfl (by decide)) ?_
 refine pa_g [(125, _)] rfl rfl ⟨rfl, trivial⟩ rfl (fun W' kk => g_ldb sc24 rfl (Bk.keep0 hb2 kk) rfl) ?_
 refine pa_g [(2, _)] rfl rfl ⟨rfl, trivial⟩ rfl (fun W' kk => g_ixa Try.underlying26 ty24 rfl rfl (by decide)) ?_
 refine pa_g [(128, _)] rfl rfl ⟨rfl, trivial⟩ rfl (fun W' kk => g_ldb sc24 rfl (Bk.keep0 hb1 kk) rfl) ?_
 refine pa_g [(3, _)] rfl rfl ⟨rfl, trivial⟩ rfl (fun W' kk => g_ixa Try.underlying26 ty24 rfl rfl (by decide)) ?_
 refine pa_g [(130, _)] rfl rfl ⟨rfl, trivial⟩ rfl (fun W' kk => g_ldb sc24 rfl (Bk.keep0 hb2 kk) rfl) ?_
 refine pa_g [(2, _)] rfl rfl ⟨rfl, trivial⟩ rfl (fun W' kk => g_ixa Try.underlying26 ty24 rfl rfl (by decide)) ?_
 refine pa_g [(133, _)] rfl rfl ⟨rfl, trivial⟩ rfl (fun W' kk => g_ldb sc24 rfl (Bk.keep0 hb1 kk) rfl) ?_
 refine pa_g [(3, _)] rfl rfl ⟨rfl, trivial⟩ rfl (fun W' kk => g_ixa Try.underlying26 ty24 rfl rfl (by decide)) ?_
 refine pa_g [(135, _)] rfl rfl ⟨rfl, trivial⟩ rfl (fun W' kk => g_ldb sc24 rfl (Bk.keep0 hb2 kk) rfl) ?_
 refine pa_g [(2, _)] rfl rfl ⟨rfl, trivial⟩ rfl (fun W' kk => g_ixa Try.underlying26 ty24 rfl rfl (by decide)) ?_
 refine pa_g [(138, _)] rfl rfl ⟨rfl, trivial⟩ rfl (fun W' kk => g_ldb sc24 rfl (Bk.keep0 hb1 kk) rfl) ?_
 refine pa_g [(3, _)] rfl rfl ⟨rfl, trivial⟩ rfl (fun W' kk => g_ixa Try.underlying26 ty24 rfl rfl (by decide)) ?_
 refine pa_g [(140, _)] rfl rfl ⟨rfl, trivial⟩ rfl (fun W' kk => g_ldb sc24 rfl (Bk.keep0 hb2 kk) rfl) ?_
 refine pa_g [(2, _)] rfl rfl ⟨rfl, trivial⟩ rfl (fun W' kk => g_ixa Try.underlying26 ty24 rfl rfl (by decide)) ?_
 refine pa_g [(143, _)] rfl rfl ⟨rfl, trivial⟩ rfl (fun W' kk => g_ldb sc24 rfl (Bk.keep0 hb1 kk) rfl) ?_
 refine pa_g [(3, _)] rfl rfl ⟨rfl, trivial⟩ rfl (fun W' kk => g_ixa Try.underlying26 ty24 rfl rfl (by decide)) ?_
 refine pa_g [(145, _)] rfl rfl ⟨rfl, trivial⟩ rfl (fun W' kk => g_ldb sc24 rfl (Bk.keep0 hb2 kk) rfl) ?_
 refine pa_d [(28, _), (30, _), (32, _)] rfl rfl ⟨rfl, rfl, rfl, trivial⟩ rfl (fun w7 k7 => ?_)
 replace hb1 := hb1.keep0 k7
 replace hb2 := hb2.keep0 k7
 replace hb3 := hb3.keep0 k7
 replace hB := hB.trans k7
 refine (d_call (vs := [_, _, _]) rfl (plus_any 0 0 (f 0) (g 0) 0 20282409603651661416747996545025 20282409603651661416747996545025 1099511627775 (by decide) (by decide) (In.wk f0 rfl) (In.wk g0 rfl) (by decide) (in_mul f0 g0 (by decide) (by decide)).2 (by decide) (by decide) (by decide) _)).mono ?_
 rintro _ w6 ⟨hi1, lo1, rfl, ra1, rb1, eq1, le1, k6⟩
 refine ⟨k6, (fun x hx => by have hx : x ∈ ([] : List Nat) := hx; cases hx), ?_⟩
 replace hb1 := hb1.keep0 k6
 replace hb2 := hb2.keep0 k6
 replace hb3 := hb3.keep0 k6
 replace hB := hB.trans k6
 refine pa_d [(33, _), (35, _), (36, _)] rfl rfl ⟨rfl, rfl, rfl, trivial⟩ rfl (fun w9 k9 => ?_)
 replace hb1 := hb1.keep0 k9
 replace hb2 := hb2.keep0 k9
 replace hb3 := hb3.keep0 k9
 replace hB := hB.trans k9
 refine (d_call (vs := [_, _, _]) rfl (plus_any hi1 lo1 (f 1) z7 20282409603651661416747996545025 385365782469381566918211934355475 405648192073033228334959930900500 21990232555519 (In.wk ra1 rfl) rb1 (In.wk f1 rfl) (In.wk r4 rfl) le1 (in_mul f1 r4 (by decide) (by decide)).2 (by decide) (by decide) (by decide) _)).mono ?_
 rintro _ w8 ⟨hi2, lo2, rfl, ra2, rb2, eq2, le2, k8⟩
 refine ⟨k8, (fun x hx => by have hx : x ∈ ([] : List Nat) := hx; cases hx), ?_⟩
 replace hb1 := hb1.keep0 k8
 replace hb2 := hb2.keep0 k8
 replace hb3 := hb3.keep0 k8
 replace hB := hB.trans k8
 refine pa_d [(37, _), (39, _), (40, _)] rfl rfl ⟨rfl, rfl, rfl, trivial⟩ rfl (fun w11 k11 => ?_)
 replace hb1 := hb1.keep0 k11
 replace hb2 := hb2.keep0 k11
 replace hb3 := hb3.keep0 k11
 replace hB := hB.trans k11
 refine (d_call (vs := [_, _, _]) rfl (plus_any hi2 lo2 (f 2) z6 405648192073033228334959930900500 385365782469381566918211934355475 791013974542414795253171865255975 42880953483263 (In.wk ra2 rfl) rb2 (In.wk f2 rfl) (In.wk r3 rfl) le2 (in_mul f2 r3 (by decide) (by decide)).2 (by decide) (by decide) (by decide) _)).mono ?_
 rintro _ w10 ⟨hi3, lo3, rfl, ra3, rb3, eq3, le3, k10⟩
 refine ⟨k10, (fun x hx => by have hx : x ∈ ([] : List Nat) := hx; cases hx), ?_⟩
 replace hb1 := hb1.keep0 k10
 replace hb2 := hb2.keep0 k10
 replace hb3 := hb3.keep0 k10
 replace hB := hB.trans k10
 refine pa_d [(41, _), (43, _), (44, _)] rfl rfl ⟨rfl, rfl, rfl, trivial⟩ rfl (fun w13 k13 => ?_)
 replace hb1 := hb1.keep0 k13
 replace hb2 := hb2.keep0 k13
 replace hb3 := hb3.keep0 k13
 replace hB := hB.trans k13
 refine (d_call (vs := [_, _, _]) rfl (plus_any hi3 lo3 (f 3) z5 791013974542414795253171865255975 385365782469381566918211934355475 1176379757011796362171383799611450 63771674411007 (In.wk ra3 rfl) rb3 (In.wk f3 rfl) (In.wk r2 rfl) le3 (in_mul f3 r2 (by decide) (by decide)).2 (by decide) (by decide) (by decide) _)).mono ?_
 rintro _ w12 ⟨hi4, lo4, rfl, ra4, rb4, eq4, le4, k12⟩
 refine ⟨k12, (fun x hx => by have hx : x ∈ ([] : List Nat) := hx; cases hx), ?_⟩
 replace hb1 := hb1.keep0 k12
 replace hb2 := hb2.keep0 k12
 replace hb3 := hb3.keep0 k12
 replace hB := hB.trans k12
 refine pa_d [(45, _), (47, _), (48, _)] rfl rfl ⟨rfl, rfl, rfl, trivial⟩ rfl (fun w15 k15 => ?_)
 replace hb1 := hb1.keep0 k15
 replace hb2 := hb2.keep0 k15
 replace hb3 := hb3.keep0 k15
 replace hB := hB.trans k15
 refine (d_call (vs := [_, _, _]) rfl (plus_any hi4 lo4 (f 4) z4 1176379757011796362171383799611450 385365782469381566918211934355475 1561745539481177929089595733966925 84662395338751 (In.wk ra4 rfl) rb4 (In.wk f4 rfl) (In.wk r1 rfl) le4 (in_mul f4 r1 (by decide) (by decide)).2 (by decide) (by decide) (by decide) _)).mono ?_
 rintro _ w14 ⟨hi5, lo5, rfl, ra5, rb5, eq5, le5, k14⟩
 refine ⟨k14, (fun x hx => by have hx : x ∈ ([] : List Nat) := hx; cases hx), ?_⟩
 replace hb1 := hb1.keep0 k14
 replace hb2 := hb2.keep0 k14
 replace hb3 := hb3.keep0 k14
 replace hB := hB.trans k14
 refine pa_d [(50, _), (52, _), (54, _)] rfl rfl ⟨rfl, rfl, rfl, trivial⟩ rfl (fun w17 k17 => ?_)
 replace hb1 := hb1.keep0 k17
 replace hb2 := hb2.keep0 k17
 replace hb3 := hb3.keep0 k17
 replace hB := hB.trans k17
 refine (d_call (vs := [_, _, _]) rfl (plus_any 0 0 (f 0) (g 1) 0 20282409603651661416747996545025 20282409603651661416747996545025 1099511627775 (by decide) (by decide) (In.wk f0 rfl) (In.wk g1 rfl) (by decide) (in_mul f0 g1 (by decide) (by decide)).2 (by decide) (by decide) (by decide) _)).mono ?_
 rintro _ w16 ⟨hi6, lo6, rfl, ra6, rb6, eq6, le6, k16⟩
 refine ⟨k16, (fun x hx => by have hx : x ∈ ([] : List Nat) := hx; cases hx), ?_⟩
 replace hb1 := hb1.keep0 k16
 replace hb2 := hb2.keep0 k16
 replace hb3 := hb3.keep0 k16
 replace hB := hB.trans k16
 refine pa_d [(55, _), (57, _), (59, _)] rfl rfl ⟨rfl, rfl, rfl, trivial⟩ rfl (fun w19 k19 => ?_)
 replace hb1 := hb1.keep0 k19
 replace hb2 := hb2.keep0 k19
 replace hb3 := hb3.keep0 k19
 replace hB := hB.trans k19
 refine (d_call (vs := [_, _, _]) rfl (plus_any hi6 lo6 (f 1) (g 0) 20282409603651661416747996545025 20282409603651661416747996545025 40564819207303322833495993090050 2199023255551 (In.wk ra6 rfl) rb6 (In.wk f1 rfl) (In.wk g0 rfl) le6 (in_mul f1 g0 (by decide) (by decide)).2 (by decide) (by decide) (by decide) _)).mono ?_
 rintro _ w18 ⟨hi7, lo7, rfl, ra7, rb7, eq7, le7, k18⟩
 refine ⟨k18, (fun x hx => by have hx : x ∈ ([] : List Nat) := hx; cases hx), ?_⟩
 replace hb1 := hb1.keep0 k18
 replace hb2 := hb2.keep0 k18
 replace hb3 := hb3.keep0 k18
 replace hB := hB.trans k18
 refine pa_d [(60, _), (62, _), (63, _)] rfl rfl ⟨rfl, rfl, rfl, trivial⟩ rfl (fun w21 k21 => ?_)
 replace hb1 := hb1.keep0 k21
 replace hb2 := hb2.keep0 k21
 replace hb3 := hb3.keep0 k21
 replace hB := hB.trans k21
 refine (d_call (vs := [_, _, _]) rfl (plus_any hi7 lo7 (f 2) z7 40564819207303322833495993090050 385365782469381566918211934355475 425930601676684889751707927445525 23089744183295 (In.wk ra7 rfl) rb7 (In.wk f2 rfl) (In.wk r4 rfl) le7 (in_mul f2 r4 (by decide) (by decide)).2 (by decide) (by decide) (by decide) _)).mono ?_
 rintro _ w20 ⟨hi8, lo8, rfl, ra8, rb8, eq8, le8, k20⟩
 refine ⟨k20, (fun x hx => by have hx : x ∈ ([] : List Nat) := hx; cases hx), ?_⟩
 replace hb1 := hb1.keep0 k20
 replace hb2 := hb2.keep0 k20
 replace hb3 := hb3.keep0 k20
 replace hB := hB.trans k20
 refine pa_d [(64, _), (66, _), (67, _)] rfl rfl ⟨rfl, rfl, rfl, trivial⟩ rfl (fun w23 k23 => ?_)
 replace hb1 := hb1.keep0 k23
 replace hb2 := hb2.keep0 k23
 replace hb3 := hb3.keep0 k23
 replace hB := hB.trans k23
 refine (d_call (vs := [_, _, _]) rfl (plus_any hi8 lo8 (f 3) z6 425930601676684889751707927445525 385365782469381566918211934355475 811296384146066456669919861801000 43980465111039 (In.wk ra8 rfl) rb8 (In.wk f3 rfl) (In.wk r3 rfl) le8 (in_mul f3 r3 (by decide) (by decide)).2 (by decide) (by decide) (by decide) _)).mono ?_
 rintro _ w22 ⟨hi9, lo9, rfl, ra9, rb9, eq9, le9, k22⟩
 refine ⟨k22, (fun x hx => by have hx : x ∈ ([] : List Nat) := hx; cases hx), ?_⟩
 replace hb1 := hb1.keep0 k22
 replace hb2 := hb2.keep0 k22
 replace hb3 := hb3.keep0 k22
 replace hB := hB.trans k22
 refine pa_d [(68, _), (70, _), (71, _)] rfl rfl ⟨rfl, rfl, rfl, trivial⟩ rfl (fun w25 k25 => ?_)
 replace hb1 := hb1.keep0 k25
 replace hb2 := hb2.keep0 k25
 replace hb3 := hb3.keep0 k25
 replace hB := hB.trans k25
 refine (d_call (vs := [_, _, _]) rfl (plus_any hi9 lo9 (f 4) z5 811296384146066456669919861801000 385365782469381566918211934355475 1196662166615448023588131796156475 64871186038783 (In.wk ra9 rfl) rb9 (In.wk f4 rfl) (In.wk r2 rfl) le9 (in_mul f4 r2 (by decide) (by decide)).2 (by decide) (by decide) (by decide) _)).mono ?_
 rintro _ w24 ⟨hi10, lo10, rfl, ra10, rb10, eq10, le10, k24⟩
 refine ⟨k24, (fun x hx => by have hx : x ∈ ([] : List Nat) := hx; cases hx), ?_⟩
 replace hb1 := hb1.keep0 k24
 replace hb2 := hb2.keep0 k24
 replace hb3 := hb3.keep0 k24
 replace hB := hB.trans k24
 refine pa_d [(73, _), (75, _), (77, _)] rfl rfl ⟨rfl, rfl, rfl, trivial⟩ rfl (fun w27 k27 => ?_)
 replace hb1 := hb1.keep0 k27
 replace hb2 := hb2.keep0 k27
 replace hb3 := hb3.keep0 k27
 replace hB := hB.trans k27
 refine (d_call (vs := [_, _, _]) rfl (plus_any 0 0 (f 0) (g 2) 0 20282409603651661416747996545025 20282409603651661416747996545025 1099511627775 (by decide) (by decide) (In.wk f0 rfl) (In.wk g2 rfl) (by decide) (in_mul f0 g2 (by decide) (by decide)).2 (by decide) (by decide) (by decide) _)).mono ?_
 rintro _ w26 ⟨hi11, lo11, rfl, ra11, rb11, eq11, le11, k26⟩
 refine ⟨k26, (fun x hx => by have hx : x ∈ ([] : List Nat) := hx; cases hx), ?_⟩
 replace hb1 := hb1.keep0 k26
 replace hb2 := hb2.keep0 k26
 replace hb3 := hb3.keep0 k26
 replace hB := hB.trans k26
 refine pa_d [(78, _), (80, _), (82, _)] rfl rfl ⟨rfl, rfl, rfl, trivial⟩ rfl (fun w29 k29 => ?_)
 replace hb1 := hb1.keep0 k29
 replace hb2 := hb2.keep0 k29
 replace hb3 := hb3.keep0 k29
 replace hB := hB.trans k29
 refine (d_call (vs := [_, _, _]) rfl (plus_any hi11 lo11 (f 1) (g 1) 20282409603651661416747996545025 20282409603651661416747996545025 40564819207303322833495993090050 2199023255551 (In.wk ra11 rfl) rb11 (In.wk f1 rfl) (In.wk g1 rfl) le11 (in_mul f1 g1 (by decide) (by decide)).2 (by decide) (by decide) (by decide) _)).mono ?_
 rintro _ w28 ⟨hi12, lo12, rfl, ra12, rb12, eq12, le12, k28⟩
 refine ⟨k28, (fun x hx => by have hx : x ∈ ([] : List Nat) := hx; cases hx), ?_⟩
 replace hb1 := hb1.keep0 k28
 replace hb2 := hb2.keep0 k28
 replace hb3 := hb3.keep0 k28
 replace hB := hB.trans k28
 refine pa_d [(83, _), (85, _), (87, _)] rfl rfl ⟨rfl, rfl, rfl, trivial⟩ rfl (fun w31 k31 => ?_)
 replace hb1 := hb1.keep0 k31
 replace hb2 := hb2.keep0 k31
 replace hb3 := hb3.keep0 k31
 replace hB := hB.trans k31
 refine (d_call (vs := [_, _, _]) rfl (plus_any hi12 lo12 (f 2) (g 0) 40564819207303322833495993090050 20282409603651661416747996545025 60847228810954984250243989635075 3298534883327 (In.wk ra12 rfl) rb12 (In.wk f2 rfl) (In.wk g0 rfl) le12 (in_mul f2 g0 (by decide) (by decide)).2 (by decide) (by decide) (by decide) _)).mono ?_
 rintro _ w30 ⟨hi13, lo13, rfl, ra13, rb13, eq13, le13, k30⟩
 refine ⟨k30, (fun x hx => by have hx : x ∈ ([] : List Nat) := hx; cases hx), ?_⟩
 replace hb1 := hb1.keep0 k30
 replace hb2 := hb2.keep0 k30
 replace hb3 := hb3.keep0 k30
 replace hB := hB.trans k30
 refine pa_d [(88, _), (90, _), (91, _)] rfl rfl ⟨rfl, rfl, rfl, trivial⟩ rfl (fun w33 k33 => ?_)
 replace hb1 := hb1.keep0 k33
 replace hb2 := hb2.keep0 k33
 replace hb3 := hb3.keep0 k33
 replace hB := hB.trans k33
 refine (d_call (vs := [_, _, _]) rfl (plus_any hi13 lo13 (f 3) z7 60847228810954984250243989635075 385365782469381566918211934355475 446213011280336551168455923990550 24189255811071 (In.wk ra13 rfl) rb13 (In.wk f3 rfl) (In.wk r4 rfl) le13 (in_mul f3 r4 (by decide) (by decide)).2 (by decide) (by decide) (by decide) _)).mono ?_
 rintro _ w32 ⟨hi14, lo14, rfl, ra14, rb14, eq14, le14, k32⟩
 refine ⟨k32, (fun x hx => by have hx : x ∈ ([] : List Nat) := hx; cases hx), ?_⟩
 replace hb1 := hb1.keep0 k32
 replace hb2 := hb2.keep0 k32
 replace hb3 := hb3.keep0 k32
 replace hB := hB.trans k32
 refine pa_d [(92, _), (94, _), (95, _)] rfl rfl ⟨rfl, rfl, rfl, trivial⟩ rfl (fun w35 k35 => ?_)
 replace hb1 := hb1.keep0 k35
 replace hb2 := hb2.keep0 k35
 replace hb3 := hb3.keep0 k35
 replace hB := hB.trans k35
 refine (d_call (vs := [_, _, _]) rfl (plus_any hi14 lo14 (f 4) z6 446213011280336551168455923990550 385365782469381566918211934355475 831578793749718118086667858346025 45079976738815 (In.wk ra14 rfl) rb14 (In.wk f4 rfl) (In.wk r3 rfl) le14 (in_mul f4 r3 (by decide) (by decide)).2 (by decide) (by decide) (by decide) _)).mono ?_
 rintro _ w34 ⟨hi15, lo15, rfl, ra15, rb15, eq15, le15, k34⟩
 refine ⟨k34, (fun x hx => by have hx : x ∈ ([] : List Nat) := hx; cases hx), ?_⟩
 replace hb1 := hb1.keep0 k34
 replace hb2 := hb2.keep0 k34
 replace hb3 := hb3.keep0 k34
 replace hB := hB.trans k34
 refine pa_d [(97, _), (99, _), (101, _)] rfl rfl ⟨rfl, rfl, rfl, trivial⟩ rfl (fun w37 k37 => ?_)
 replace hb1 := hb1.keep0 k37
 replace hb2 := hb2.keep0 k37
 replace hb3 := hb3.keep0 k37
 replace hB := hB.trans k37
 refine (d_call (vs := [_, _, _]) rfl (plus_any 0 0 (f 0) (g 3) 0 20282409603651661416747996545025 20282409603651661416747996545025 1099511627775 (by decide) (by decide) (In.wk f0 rfl) (In.wk g3 rfl) (by decide) (in_mul f0 g3 (by decide) (by decide)).2 (by decide) (by decide) (by decide) _)).mono ?_
 rintro _ w36 ⟨hi16, lo16, rfl, ra16, rb16, eq16, le16, k36⟩
 refine ⟨k36, (fun x hx => by have hx : x ∈ ([] : List Nat) := hx; cases hx), ?_⟩
 replace hb1 := hb1.keep0 k36
 replace hb2 := hb2.keep0 k36
 replace hb3 := hb3.keep0 k36
 replace hB := hB.trans k36
 refine pa_d [(102, _), (104, _), (106, _)] rfl rfl ⟨rfl, rfl, rfl, trivial⟩ rfl (fun w39 k39 => ?_)
 replace hb1 := hb1.keep0 k39
 replace hb2 := hb2.keep0 k39
 replace hb3 := hb3.keep0 k39
 replace hB := hB.trans k39
 refine (d_call (vs := [_, _, _]) rfl (plus_any hi16 lo16 (f 1) (g 2) 20282409603651661416747996545025 20282409603651661416747996545025 40564819207303322833495993090050 2199023255551 (In.wk ra16 rfl) rb16 (In.wk f1 rfl) (In.wk g2 rfl) le16 (in_mul f1 g2 (by decide) (by decide)).2 (by decide) (by decide) (by decide) _)).mono ?_
 rintro _ w38 ⟨hi17, lo17, rfl, ra17, rb17, eq17, le17, k38⟩
 refine ⟨k38, (fun x hx => by have hx : x ∈ ([] : List Nat) := hx; cases hx), ?_⟩
 replace hb1 := hb1.keep0 k38
 replace hb2 := hb2.keep0 k38
 replace hb3 := hb3.keep0 k38
 replace hB := hB.trans k38
 refine pa_d [(107, _), (109, _), (111, _)] rfl rfl ⟨rfl, rfl, rfl, trivial⟩ rfl (fun w41 k41 => ?_)
 replace hb1 := hb1.keep0 k41
 replace hb2 := hb2.keep0 k41
 replace hb3 := hb3.keep0 k41
 replace hB := hB.trans k41
 refine (d_call (vs := [_, _, _]) rfl (plus_any hi17 lo17 (f 2) (g 1) 40564819207303322833495993090050 20282409603651661416747996545025 60847228810954984250243989635075 3298534883327 (In.wk ra17 rfl) rb17 (In.wk f2 rfl) (In.wk g1 rfl) le17 (in_mul f2 g1 (by decide) (by decide)).2 (by decide) (by decide) (by decide) _)).mono ?_
 rintro _ w40 ⟨hi18, lo18, rfl, ra18, rb18, eq18, le18, k40⟩
 refine ⟨k40, (fun x hx => by have hx : x ∈ ([] : List Nat) := hx; cases hx), ?_⟩
 replace hb1 := hb1.keep0 k40
 replace hb2 := hb2.keep0 k40
 replace hb3 := hb3.keep0 k40
 replace hB := hB.trans k40
 refine pa_d [(112, _), (114, _), (116, _)] rfl rfl ⟨rfl, rfl, rfl, trivial⟩ rfl (fun w43 k43 => ?_)
 replace hb1 := hb1.keep0 k43
 replace hb2 := hb2.keep0 k43
 replace hb3 := hb3.keep0 k43
 replace hB := hB.trans k43
 refine (d_call (vs := [_, _, _]) rfl (plus_any hi18 lo18 (f 3) (g 0) 60847228810954984250243989635075 20282409603651661416747996545025 81129638414606645666991986180100 4398046511103 (In.wk ra18 rfl) rb18 (In.wk f3 rfl) (In.wk g0 rfl) le18 (in_mul f3 g0 (by decide) (by decide)).2 (by decide) (by decide) (by decide) _)).mono ?_
 rintro _ w42 ⟨hi19, lo19, rfl, ra19, rb19, eq19, le19, k42⟩
 refine ⟨k42, (fun x hx => by have hx : x ∈ ([] : List Nat) := hx; cases hx), ?_⟩
 replace hb1 := hb1.keep0 k42
 replace hb2 := hb2.keep0 k42
 replace hb3 := hb3.keep0 k42
 replace hB := hB.trans k42
 refine pa_d [(117, _), (119, _), (120, _)] rfl rfl ⟨rfl, rfl, rfl, trivial⟩ rfl (fun w45 k45 => ?_)
 replace hb1 := hb1.keep0 k45
 replace hb2 := hb2.keep0 k45
 replace hb3 := hb3.keep0 k45
 replace hB := hB.trans k45
 refine (d_call (vs := [_, _, _]) rfl (plus_any hi19 lo19 (f 4) z7 81129638414606645666991986180100 385365782469381566918211934355475 466495420883988212585203920535575 25288767438847 (In.wk ra19 rfl) rb19 (In.wk f4 rfl) (In.wk r4 rfl) le19 (in_mul f4 r4 (by decide) (by decide)).2 (by decide) (by decide) (by decide) _)).mono ?_
 rintro _ w44 ⟨hi20, lo20, rfl, ra20, rb20, eq20, le20, k44⟩
 refine ⟨k44, (fun x hx => by have hx : x ∈ ([] : List Nat) := hx; cases hx), ?_⟩
 replace hb1 := hb1.keep0 k44
 replace hb2 := hb2.keep0 k44
 replace hb3 := hb3.keep0 k44
 replace hB := hB.trans k44
 refine pa_d [(122, _), (124, _), (126, _)] rfl rfl ⟨rfl, rfl, rfl, trivial⟩ rfl (fun w47 k47 => ?_)
 replace hb1 := hb1.keep0 k47
 replace hb2 := hb2.keep0 k47
 replace hb3 := hb3.keep0 k47
 replace hB := hB.trans k47
 refine (d_call (vs := [_, _, _]) rfl (plus_any 0 0 (f 0) (g 4) 0 20282409603651661416747996545025 20282409603651661416747996545025 1099511627775 (by decide) (by decide) (In.wk f0 rfl) (In.wk g4 rfl) (by decide) (in_mul f0 g4 (by decide) (by decide)).2 (by decide) (by decide) (by decide) _)).mono ?_
 rintro _ w46 ⟨hi21, lo21, rfl, ra21, rb21, eq21, le21, k46⟩
 refine ⟨k46, (fun x hx => by have hx : x ∈ ([] : List Nat) := hx; cases hx), ?_⟩
 replace hb1 := hb1.keep0 k46
 replace hb2 := hb2.keep0 k46
 replace hb3 := hb3.keep0 k46
 replace hB := hB.trans k46
 refine pa_d [(127, _), (129, _), (131, _)] rfl rfl ⟨rfl, rfl, rfl, trivial⟩ rfl (fun w49 k49 => ?_)
 replace hb1 := hb1.keep0 k49
 replace hb2 := hb2.keep0 k49
 replace hb3 := hb3.keep0 k49
 replace hB := hB.trans k49
 refine (d_call (vs := [_, _, _]) rfl (plus_any hi21 lo21 (f 1) (g 3) 20282409603651661416747996545025 20282409603651661416747996545025 40564819207303322833495993090050 2199023255551 (In.wk ra21 rfl) rb21 (In.wk f1 rfl) (In.wk g3 rfl) le21 (in_mul f1 g3 (by decide) (by decide)).2 (by decide) (by decide) (by decide) _)).mono ?_
 rintro _ w48 ⟨hi22, lo22, rfl, ra22, rb22, eq22, le22, k48⟩
 refine ⟨k48, (fun x hx => by have hx : x ∈ ([] : List Nat) := hx; cases hx), ?_⟩
 replace hb1 := hb1.keep0 k48
 replace hb2 := hb2.keep0 k48
 replace hb3 := hb3.keep0 k48
 replace hB := hB.trans k48
 refine pa_d [(132, _), (134, _), (136, _)] rfl rfl ⟨rfl, rfl, rfl, trivial⟩ rfl (fun w51 k51 => ?_)
 replace hb1 := hb1.keep0 k51
 replace hb2 := hb2.keep0 k51
 replace hb3 := hb3.keep0 k51
 replace hB := hB.trans k51
 refine (d_call (vs := [_, _, _]) rfl (plus_any hi22 lo22 (f 2) (g 2) 40564819207303322833495993090050 20282409603651661416747996545025 60847228810954984250243989635075 3298534883327 (In.wk ra22 rfl) rb22 (In.wk f2 rfl) (In.wk g2 rfl) le22 (in_mul f2 g2 (by decide) (by decide)).2 (by decide) (by decide) (by decide) _)).mono ?_
 rintro _ w50 ⟨hi23, lo23, rfl, ra23, rb23, eq23, le23, k50⟩
 refine ⟨k50, (fun x hx => by have hx : x ∈ ([] : List Nat) := hx; cases hx), ?_⟩
 replace hb1 := hb1.keep0 k50
 replace hb2 := hb2.keep0 k50
 replace hb3 := hb3.keep0 k50
 replace hB := hB.trans k50
 refine pa_d [(137, _), (139, _), (141, _)] rfl rfl ⟨rfl, rfl, rfl, trivial⟩ rfl (fun w53 k53 => ?_)
 replace hb1 := hb1.keep0 k53
 replace hb2 := hb2.keep0 k53
 replace hb3 := hb3.keep0 k53
 replace hB := hB.trans k53
 refine (d_call (vs := [_, _, _]) rfl (plus_any hi23 lo23 (f 3) (g 1) 60847228810954984250243989635075 20282409603651661416747996545025 81129638414606645666991986180100 4398046511103 (In.wk ra23 rfl) rb23 (In.wk f3 rfl) (In.wk g1 rfl) le23 (in_mul f3 g1 (by decide) (by decide)).2 (by decide) (by decide) (by decide) _)).mono ?_
 rintro _ w52 ⟨hi24, lo24, rfl, ra24, rb24, eq24, le24, k52⟩
 refine ⟨k52, (fun x hx => by have hx : x ∈ ([] : List Nat) := hx; cases hx), ?_⟩
 replace hb1 := hb1.keep0 k52
 replace hb2 := hb2.keep0 k52
 replace hb3 := hb3.keep0 k52
 replace hB := hB.trans k52
 refine pa_d [(142, _), (144, _), (146, _)] rfl rfl ⟨rfl, rfl, rfl, trivial⟩ rfl (fun w55 k55 => ?_)
 replace hb1 := hb1.keep0 k55
 replace hb2 := hb2.keep0 k55
 replace hb3 := hb3.keep0 k55
 replace hB := hB.trans k55
 refine (d_call (vs := [_, _, _]) rfl (plus_any hi24 lo24 (f 4) (g 0) 81129638414606645666991986180100 20282409603651661416747996545025 101412048018258307083739982725125 5497558138879 (In.wk ra24 rfl) rb24 (In.wk f4 rfl) (In.wk g0 rfl) le24 (in_mul f4 g0 (by decide) (by decide)).2 (by decide) (by decide) (by decide) _)).mono ?_
 rintro _ w54 ⟨hi25, lo25, rfl, ra25, rb25, eq25, le25, k54⟩
 refine ⟨k54, (fun x hx => by have hx : x ∈ ([] : List Nat) := hx; cases hx), ?_⟩
 replace hb1 := hb1.keep0 k54
 replace hb2 := hb2.keep0 k54
 replace hb3 := hb3.keep0 k54
 replace hB := hB.trans k54
 refine pa_g [(49, _), (72, _), (96, _), (121, _), (147, _)] rfl rfl ⟨rfl, rfl, rfl, rfl, rfl, trivial⟩ rfl (fun W' kk => g_blda (idx := [0, 1, 2, 3, 4]) (xs := [.tmp 49, .tmp 72, .tmp 96, .tmp 121, .tmp 147]) (vs := [_, _, _, _, _]) (css := [[.int .u64 hi5, .int .u64 lo5], [.int .u64 hi10, .int .u64 lo10], [.int .u64 hi15, .int .u64 lo15], [.int .u64 hi20, .int .u64 lo20], [.int .u64 hi25, .int .u64 lo25]]) (out := [.int .u64 hi5, .int .u64 lo5, .int .u64 hi10, .int .u64 lo10, .int .u64 hi15, .int .u64 lo15, .int .u64 hi20, .int .u64 lo20, .int .u64 hi25, .int .u64 lo25]) Try.underlying108 ty106 ty108 (arr_pls 5 2) rfl rfl ⟨rfl, rfl, rfl, rfl, rfl, trivial⟩ rfl rfl) ?_
 refine pa_nil (fun w56 k56 => ?_)
 replace hb1 := hb1.keep0 k56
 replace hb2 := hb2.keep0 k56
 replace hb3 := hb3.keep0 k56
 replace hB := hB.trans k56
 intro b4 eb4 lb1 hb4 ds1 sp1
 have ge_b4 : w.heap.size ≤ b4 := Nat.le_trans gs1 eb4
 have ne_b1_b4 : b1 ≠ b4 := Nat.ne_of_lt (Nat.lt_of_lt_of_le lt1 eb4)
 have ne_b2_b4 : b2 ≠ b4 := Nat.ne_of_lt (Nat.lt_of_lt_of_le lt2 eb4)
 have ne_b3_b4 : b3 ≠ b4 := Nat.ne_of_lt (Nat.lt_of_lt_of_le lt3 eb4)
 refine fina_nil ?_
 refine ow_d0 (d_sta ty108 rfl rfl rfl (by simp only [List.forall_mem_cons]; refine ⟨rfl, rfl, rfl, rfl, rfl, rfl, rfl, rfl, rfl, rfl, fun v hv => by cases hv⟩) hb4 rfl) ?_
 rintro _ w57 ⟨hb5, k57, z8⟩
 replace hb1 := hb1.keep k57 (fun hm => absurd (List.mem_singleton.1 hm) ne_b1_b4)
 replace hb2 := hb2.keep k57 (fun hm => absurd (List.mem_singleton.1 hm) ne_b2_b4)
 replace hb3 := hb3.keep k57 (fun hm => absurd (List.mem_singleton.1 hm) ne_b3_b4)
 replace hB := hB.new k57 (fun x hx => .inl ((List.mem_singleton.1 hx) ▸ ge_b4))
 clear z8
 replace hb5 : Bk w57 b4 _ [.int .u64 hi5, .int .u64 lo5, .int .u64 hi10, .int .u64 lo10, .int .u64 hi15, .int .u64 lo15, .int .u64 hi20, .int .u64 lo20, .int .u64 hi25, .int .u64 lo25] := hb5
 refine ow_nil (tw_keep [(4, _), (9, _)] ⟨rfl, rfl, trivial⟩ ?_)
 refine tw_seq (tw_region (ow_d (d_alloc ty26) rfl ?_))
 rintro _ w58 ⟨b5, rfl, eb5, hb6, k58, z9⟩
 have ge_b5 : w.heap.size ≤ b5 := by have := hB.size; omega
 have ne_b3_b5 : b3 ≠ b5 := by have := hb3.lt; omega
 have ne_b4_b5 : b4 ≠ b5 := by have := hb5.lt; omega
 replace hb3 := hb3.keep0 k58
 replace hb5 := hb5.keep0 k58
 replace hB := hB.trans k58
 clear eb5 z9
 refine ow_nil (tw_seq (tw_region (ow_g (g_as rfl) rfl (ow_nil (tw_seq (tw_seq ?_))))))
 refine tw_region (ow_g (g_ldab (cs' := [_, _, _, _, _, _, _, _, _, _]) ag108 ty108 rfl hb5 rfl rfl) rfl ?_)
 refine ow_g (g_mv rfl) rfl (ow_nil (tw_block (tw_unroll 5 ?_)))
 refine tw_seq (tw_region (ow_g (g_lt rfl rfl) rfl ?_))
 refine ow_nil (tw_seq (tw_ifT rfl (by decide) ?_))
 refine tw_skip (tw_seq (tw_block (tw_seq (tw_region (ow_g (g_mv rfl) rfl (ow_g (g_ixva (cs' := [_, _]) Try.underlying108 ty106 ag106 rfl rfl (by decide) rfl) rfl ?_))))))
 refine ow_d (d_alloc ty106) rfl ?_
 rintro _ w59 ⟨b6, rfl, eb6, hb7, k59, z10⟩
 have ge_b6 : w.heap.size ≤ b6 := by have := hB.size; omega
 have ne_b3_b6 : b3 ≠ b6 := by have := hb3.lt; omega
 have ne_b5_b6 : b5 ≠ b6 := by have := hb6.lt; omega
 replace hb3 := hb3.keep0 k59
 replace hb6 := hb6.keep0 k59
 replace hB := hB.trans k59
 clear eb6 z10
 refine ow_g (g_as rfl) rfl (ow_d0 (d_sta ty106 rfl rfl rfl (by simp only [List.forall_mem_cons]; refine ⟨rfl, rfl, fun v hv => by cases hv⟩) hb7 rfl) ?_)
 rintro _ w60 ⟨hb8, k60, z11⟩
 replace hb3 := hb3.keep k60 (fun hm => absurd (List.mem_singleton.1 hm) ne_b3_b6)
 replace hb6 := hb6.keep k60 (fun hm => absurd (List.mem_singleton.1 hm) ne_b5_b6)
 replace hB := hB.new k60 (fun x hx => .inl ((List.mem_singleton.1 hx) ▸ ge_b6))
 clear z11
 replace hb8 : Bk w60 b6 _ [.int .u64 hi5, .int .u64 lo5] := hb8
 refine ow_nil (tw_seq (tw_region (ow_g (g_fa Try.underlying106 rfl ty24 (by decide) rfl) rfl ?_)))
 refine ow_g (g_ldb sc24 rfl hb8 rfl) rfl ?_
 refine ow_g (g_mv rfl) rfl (ow_g (g_callv (vs := [_, _, _]) rfl (add64_run _ _ _ (In.wk rb5 rfl) (In.wk (in_c 0) rfl) (In.wk (in_c 0) rfl))) rfl ?_)
 refine ow_g (g_mv rfl) rfl (ow_gx (e' := ((lo5 + 0 + 0) % 18446744073709551616)) (lo := 0) (hi := 18446744073709551615) (g_ext (vs := [_, _]) rfl rfl) (rfl) (In.wk (in_mod _ (by decide)) rfl) rfl (fun z12 h5 r5 => ?_))
 refine ow_gx (e' := ((lo5 + 0 + 0) / 18446744073709551616)) (lo := 0) (hi := 0) (g_ext (vs := [_, _]) rfl rfl) (rfl) (In.wk (in_div (in_add (in_add rb5 (in_c 0)) (in_c 0)) (by decide)) rfl) rfl (fun z13 h6 r6 => ?_)
 refine ow_g (g_as rfl) rfl (ow_g (g_as rfl) rfl (ow_nil (tw_keep [(4, _), (10, _), (149, _), (150, _), (13, _), (12, _), (14, _), (15, _)] ⟨rfl, rfl, rfl, rfl, rfl, rfl, rfl, rfl, trivial⟩ ?_)))
 refine tw_seq (tw_region (ow_g (g_mv rfl) rfl (ow_g (g_mv rfl) rfl (ow_gx (e' := z12 % 2251799813685248) (lo := 0) (hi := 2251799813685247) (g_and rfl rfl) (and_mod 51 r5 rfl rfl rfl rfl rfl rfl) (In.wk (in_mod _ (by decide)) rfl) rfl (fun z14 h7 r7 => ?_)))))
 refine ow_g (g_ixa Try.underlying26 ty24 rfl rfl (by decide)) rfl ?_
 refine ow_d0 (d_st ty24 rfl rfl rfl hb6 rfl) ?_
 rintro _ w61 ⟨hb9, k61, z15⟩
 replace hb3 := hb3.keep k61 (fun hm => absurd (List.mem_singleton.1 hm) ne_b3_b5)
 replace hb8 := hb8.keep k61 (fun hm => absurd (List.mem_singleton.1 hm) (Ne.symm ne_b5_b6))
 replace hB := hB.new k61 (fun x hx => .inl ((List.mem_singleton.1 hx) ▸ ge_b5))
 clear z15
 replace hb9 : Bk w61 b5 _ [.int .u64 z14, .int .u64 0, .int .u64 0, .int .u64 0, .int .u64 0] := hb9
 refine ow_nil (tw_region (ow_g (g_fa Try.underlying106 rfl ty24 (by decide) rfl) rfl ?_))
 refine ow_g (g_ldb sc24 rfl hb8 rfl) rfl ?_
 refine ow_g (g_mv rfl) rfl (ow_gx (e' := hi5 + z13) (lo := 0) (hi := 84662395338751) (g_addw rfl rfl) (wrap_fit (in_add ra5 r6) rfl) (In.wk (in_add ra5 r6) rfl) rfl (fun z16 h8 r8 => ?_))
 refine ow_gx (e' := z16 * 8192) (lo := 0) (hi := 693554342615048192) (g_shlp (m := 8192) rfl rfl (by decide) rfl) (wrap_fit (in_mulc r8 (by decide)) rfl) (In.wk (in_mulc r8 (by decide)) rfl) rfl (fun z17 h9 r9 => ?_)
 refine ow_g (g_mv rfl) rfl (ow_gx (e' := z12 / 2251799813685248) (lo := 0) (hi := 8191) (g_shrp (m := 2251799813685248) rfl rfl (by decide) rfl) (rfl) (In.wk (in_div r5 (by decide)) rfl) rfl (fun z18 h10 r10 => ?_))
 refine ow_gx (e' := z17 + z18) (lo := 0) (hi := 693554342615056383) (g_or rfl rfl) (or_join 13 (m := 8192) r9 rfl r10 rfl rfl rfl rfl (eq_mod h9 (Int.mul_emod_left _ _)) rfl rfl) (In.wk (in_add r9 r10) rfl) rfl (fun z19 h11 r11 => ?_)
 refine ow_g (g_as rfl) rfl (ow_nil (tw_keep [(4, _), (10, _), (149, _), (150, _), (11, _)] ⟨rfl, rfl, rfl, rfl, rfl, trivial⟩ ?_))
 refine tw_b (tw_region (ow_g (g_fold (j := 1) (g_addw rfl rfl) (by decide)) rfl ?_))
 refine ow_g (g_mv rfl) rfl (ow_nil (tw_lp (tw_seq (tw_region (ow_g (g_lt rfl rfl) rfl ?_)))))
 refine ow_nil (tw_seq (tw_ifT rfl (by decide) ?_))
 refine tw_skip (tw_seq (tw_block (tw_seq (tw_region (ow_g (g_mv rfl) rfl (ow_g (g_ixva (cs' := [_, _]) Try.underlying108 ty106 ag106 rfl rfl (by decide) rfl) rfl ?_))))))
 refine ow_d (d_alloc ty106) rfl ?_
 rintro _ w62 ⟨b7, rfl, eb7, hb10, k62, z20⟩
 have ge_b7 : w.heap.size ≤ b7 := by have := hB.size; omega
 have ne_b3_b7 : b3 ≠ b7 := by have := hb3.lt; omega
 have ne_b5_b7 : b5 ≠ b7 := by have := hb9.lt; omega
 replace hb3 := hb3.keep0 k62
 replace hb9 := hb9.keep0 k62
 replace hB := hB.trans k62
 clear eb7 z20
 refine ow_g (g_as rfl) rfl (ow_d0 (d_sta ty106 rfl rfl rfl (by simp only [List.forall_mem_cons]; refine ⟨rfl, rfl, fun v hv => by cases hv⟩) hb10 rfl) ?_)
 rintro _ w63 ⟨hb11, k63, z21⟩
 replace hb3 := hb3.keep k63 (fun hm => absurd (List.mem_singleton.1 hm) ne_b3_b7)
 replace hb9 := hb9.keep k63 (fun hm => absurd (List.mem_singleton.1 hm) ne_b5_b7)
 replace hB := hB.new k63 (fun x hx => .inl ((List.mem_singleton.1 hx) ▸ ge_b7))
 clear z21
 replace hb11 : Bk w63 b7 _ [.int .u64 hi10, .int .u64 lo10] := hb11
 refine ow_nil (tw_seq (tw_region (ow_g (g_fa Try.underlying106 rfl ty24 (by decide) rfl) rfl ?_)))
 refine ow_g (g_ldb sc24 rfl hb11 rfl) rfl ?_
 refine ow_g (g_mv rfl) rfl (ow_g (g_callv (vs := [_, _, _]) rfl (add64_run _ _ _ (In.wk rb10 rfl) (In.wk r11 rfl) (In.wk (in_c 0) rfl))) rfl ?_)
 refine ow_g (g_mv rfl) rfl (ow_gx (e' := ((lo10 + z19 + 0) % 18446744073709551616)) (lo := 0) (hi := 18446744073709551615) (g_ext (vs := [_, _]) rfl rfl) (rfl) (In.wk (in_mod _ (by decide)) rfl) rfl (fun z22 h12 r12 => ?_))
 refine ow_gx (e' := ((lo10 + z19 + 0) / 18446744073709551616)) (lo := 0) (hi := 1) (g_ext (vs := [_, _]) rfl rfl) (rfl) (In.wk (in_div (in_add (in_add rb10 r11) (in_c 0)) (by decide)) rfl) rfl (fun z23 h13 r13 => ?_)
 refine ow_g (g_as rfl) rfl (ow_g (g_as rfl) rfl (ow_nil (tw_keep [(4, _), (10, _), (149, _), (150, _), (13, _), (12, _), (14, _), (15, _)] ⟨rfl, rfl, rfl, rfl, rfl, rfl, rfl, rfl, trivial⟩ ?_)))
 refine tw_seq (tw_region (ow_g (g_mv rfl) rfl (ow_g (g_mv rfl) rfl (ow_gx (e' := z22 % 2251799813685248) (lo := 0) (hi := 2251799813685247) (g_and rfl rfl) (and_mod 51 r12 rfl rfl rfl rfl rfl rfl) (In.wk (in_mod _ (by decide)) rfl) rfl (fun z24 h14 r14 => ?_)))))
 refine ow_g (g_ixa Try.underlying26 ty24 rfl rfl (by decide)) rfl ?_
 refine ow_d0 (d_st ty24 rfl rfl rfl hb9 rfl) ?_
 rintro _ w64 ⟨hb12, k64, z25⟩
 replace hb3 := hb3.keep k64 (fun hm => absurd (List.mem_singleton.1 hm) ne_b3_b5)
 replace hb11 := hb11.keep k64 (fun hm => absurd (List.mem_singleton.1 hm) (Ne.symm ne_b5_b7))
 replace hB := hB.new k64 (fun x hx => .inl ((List.mem_singleton.1 hx) ▸ ge_b5))
 clear z25
 replace hb12 : Bk w64 b5 _ [.int .u64 z14, .int .u64 z24, .int .u64 0, .int .u64 0, .int .u64 0] := hb12
 refine ow_nil (tw_region (ow_g (g_fa Try.underlying106 rfl ty24 (by decide) rfl) rfl ?_))
 refine ow_g (g_ldb sc24 rfl hb11 rfl) rfl ?_
 refine ow_g (g_mv rfl) rfl (ow_gx (e' := hi10 + z23) (lo := 0) (hi := 64871186038784) (g_addw rfl rfl) (wrap_fit (in_add ra10 r13) rfl) (In.wk (in_add ra10 r13) rfl) rfl (fun z26 h15 r15 => ?_))
 refine ow_gx (e' := z26 * 8192) (lo := 0) (hi := 531424756029718528) (g_shlp (m := 8192) rfl rfl (by decide) rfl) (wrap_fit (in_mulc r15 (by decide)) rfl) (In.wk (in_mulc r15 (by decide)) rfl) rfl (fun z27 h16 r16 => ?_)
 refine ow_g (g_mv rfl) rfl (ow_gx (e' := z22 / 2251799813685248) (lo := 0) (hi := 8191) (g_shrp (m := 2251799813685248) rfl rfl (by decide) rfl) (rfl) (In.wk (in_div r12 (by decide)) rfl) rfl (fun z28 h17 r17 => ?_))
 refine ow_gx (e' := z27 + z28) (lo := 0) (hi := 531424756029726719) (g_or rfl rfl) (or_join 13 (m := 8192) r16 rfl r17 rfl rfl rfl rfl (eq_mod h16 (Int.mul_emod_left _ _)) rfl rfl) (In.wk (in_add r16 r17) rfl) rfl (fun z29 h18 r18 => ?_)
 refine ow_g (g_as rfl) rfl (ow_nil (tw_keep [(4, _), (10, _), (149, _), (150, _), (11, _)] ⟨rfl, rfl, rfl, rfl, rfl, trivial⟩ ?_))
 refine tw_b (tw_region (ow_g (g_fold (j := 2) (g_addw rfl rfl) (by decide)) rfl ?_))
 refine ow_g (g_mv rfl) rfl (ow_nil (tw_lp (tw_seq (tw_region (ow_g (g_lt rfl rfl) rfl ?_)))))
 refine ow_nil (tw_seq (tw_ifT rfl (by decide) ?_))
 refine tw_skip (tw_seq (tw_block (tw_seq (tw_region (ow_g (g_mv rfl) rfl (ow_g (g_ixva (cs' := [_, _]) Try.underlying108 ty106 ag106 rfl rfl (by decide) rfl) rfl ?_))))))
 refine ow_d (d_alloc ty106) rfl ?_
 rintro _ w65 ⟨b8, rfl, eb8, hb13, k65, z30⟩
 have ge_b8 : w.heap.size ≤ b8 := by have := hB.size; omega
 have ne_b3_b8 : b3 ≠ b8 := by have := hb3.lt; omega
 have ne_b5_b8 : b5 ≠ b8 := by have := hb12.lt; omega
 replace hb3 := hb3.keep0 k65
 replace hb12 := hb12.keep0 k65
 replace hB := hB.trans k65
 clear eb8 z30
 refine ow_g (g_as rfl) rfl (ow_d0 (d_sta ty106 rfl rfl rfl (by simp only [List.forall_mem_cons]; refine ⟨rfl, rfl, fun v hv => by cases hv⟩) hb13 rfl) ?_)
 rintro _ w66 ⟨hb14, k66, z31⟩
 replace hb3 := hb3.keep k66 (fun hm => absurd (List.mem_singleton.1 hm) ne_b3_b8)
 replace hb12 := hb12.keep k66 (fun hm => absurd (List.mem_singleton.1 hm) ne_b5_b8)
 replace hB := hB.new k66 (fun x hx => .inl ((List.mem_singleton.1 hx) ▸ ge_b8))
 clear z31
 replace hb14 : Bk w66 b8 _ [.int .u64 hi15, .int .u64 lo15] := hb14
 refine ow_nil (tw_seq (tw_region (ow_g (g_fa Try.underlying106 rfl ty24 (by decide) rfl) rfl ?_)))
 refine ow_g (g_ldb sc24 rfl hb14 rfl) rfl ?_
 refine ow_g (g_mv rfl) rfl (ow_g (g_callv (vs := [_, _, _]) rfl (add64_run _ _ _ (In.wk rb15 rfl) (In.wk r18 rfl) (In.wk (in_c 0) rfl))) rfl ?_)
 refine ow_g (g_mv rfl) rfl (ow_gx (e' := ((lo15 + z29 + 0) % 18446744073709551616)) (lo := 0) (hi := 18446744073709551615) (g_ext (vs := [_, _]) rfl rfl) (rfl) (In.wk (in_mod _ (by decide)) rfl) rfl (fun z32 h19 r19 => ?_))
 refine ow_gx (e' := ((lo15 + z29 + 0) / 18446744073709551616)) (lo := 0) (hi := 1) (g_ext (vs := [_, _]) rfl rfl) (rfl) (In.wk (in_div (in_add (in_add rb15 r18) (in_c 0)) (by decide)) rfl) rfl (fun z33 h20 r20 => ?_)
 refine ow_g (g_as rfl) rfl (ow_g (g_as rfl) rfl (ow_nil (tw_keep [(4, _), (10, _), (149, _), (150, _), (13, _), (12, _), (14, _), (15, _)] ⟨rfl, rfl, rfl, rfl, rfl, rfl, rfl, rfl, trivial⟩ ?_)))
 refine tw_seq (tw_region (ow_g (g_mv rfl) rfl (ow_g (g_mv rfl) rfl (ow_gx (e' := z32 % 2251799813685248) (lo := 0) (hi := 2251799813685247) (g_and rfl rfl) (and_mod 51 r19 rfl rfl rfl rfl rfl rfl) (In.wk (in_mod _ (by decide)) rfl) rfl (fun z34 h21 r21 => ?_)))))
 refine ow_g (g_ixa Try.underlying26 ty24 rfl rfl (by decide)) rfl ?_
 refine ow_d0 (d_st ty24 rfl rfl rfl hb12 rfl) ?_
 rintro _ w67 ⟨hb15, k67, z35⟩
 replace hb3 := hb3.keep k67 (fun hm => absurd (List.mem_singleton.1 hm) ne_b3_b5)
 replace hb14 := hb14.keep k67 (fun hm => absurd (List.mem_singleton.1 hm) (Ne.symm ne_b5_b8))
 replace hB := hB.new k67 (fun x hx => .inl ((List.mem_singleton.1 hx) ▸ ge_b5))
 clear z35
 replace hb15 : Bk w67 b5 _ [.int .u64 z14, .int .u64 z24, .int .u64 z34, .int .u64 0, .int .u64 0] := hb15
 refine ow_nil (tw_region (ow_g (g_fa Try.underlying106 rfl ty24 (by decide) rfl) rfl ?_))
 refine ow_g (g_ldb sc24 rfl hb14 rfl) rfl ?_
 refine ow_g (g_mv rfl) rfl (ow_gx (e' := hi15 + z33) (lo := 0) (hi := 45079976738816) (g_addw rfl rfl) (wrap_fit (in_add ra15 r20) rfl) (In.wk (in_add ra15 r20) rfl) rfl (fun z36 h22 r22 => ?_))
 refine ow_gx (e' := z36 * 8192) (lo := 0) (hi := 369295169444380672) (g_shlp (m := 8192) rfl rfl (by decide) rfl) (wrap_fit (in_mulc r22 (by decide)) rfl) (In.wk (in_mulc r22 (by decide)) rfl) rfl (fun z37 h23 r23 => ?_)
 refine ow_g (g_mv rfl) rfl (ow_gx (e' := z32 / 2251799813685248) (lo := 0) (hi := 8191) (g_shrp (m := 2251799813685248) rfl rfl (by decide) rfl) (rfl) (In.wk (in_div r19 (by decide)) rfl) rfl (fun z38 h24 r24 => ?_))
 refine ow_gx (e' := z37 + z38) (lo := 0) (hi := 369295169444388863) (g_or rfl rfl) (or_join 13 (m := 8192) r23 rfl r24 rfl rfl rfl rfl (eq_mod h23 (Int.mul_emod_left _ _)) rfl rfl) (In.wk (in_add r23 r24) rfl) rfl (fun z39 h25 r25 => ?_)
 refine ow_g (g_as rfl) rfl (ow_nil (tw_keep [(4, _), (10, _), (149, _), (150, _), (11, _)] ⟨rfl, rfl, rfl, rfl, rfl, trivial⟩ ?_))
 refine tw_b (tw_region (ow_g (g_fold (j := 3) (g_addw rfl rfl) (by decide)) rfl ?_))
 refine ow_g (g_mv rfl) rfl (ow_nil (tw_lp (tw_seq (tw_region (ow_g (g_lt rfl rfl) rfl ?_)))))
 refine ow_nil (tw_seq (tw_ifT rfl (by decide) ?_))
 refine tw_skip (tw_seq (tw_block (tw_seq (tw_region (ow_g (g_mv rfl) rfl (ow_g (g_ixva (cs' := [_, _]) Try.underlying108 ty106 ag106 rfl rfl (by decide) rfl) rfl ?_))))))
 refine ow_d (d_alloc ty106) rfl ?_
 rintro _ w68 ⟨b9, rfl, eb9, hb16, k68, z40⟩
 have ge_b9 : w.heap.size ≤ b9 := by have := hB.size; omega
 have ne_b3_b9 : b3 ≠ b9 := by have := hb3.lt; omega
 have ne_b5_b9 : b5 ≠ b9 := by have := hb15.lt; omega
 replace hb3 := hb3.keep0 k68
 replace hb15 := hb15.keep0 k68
 replace hB := hB.trans k68
 clear eb9 z40
 refine ow_g (g_as rfl) rfl (ow_d0 (d_sta ty106 rfl rfl rfl (by simp only [List.forall_mem_cons]; refine ⟨rfl, rfl, fun v hv => by cases hv⟩) hb16 rfl) ?_)
 rintro _ w69 ⟨hb17, k69, z41⟩
 replace hb3 := hb3.keep k69 (fun hm => absurd (List.mem_singleton.1 hm) ne_b3_b9)
 replace hb15 := hb15.keep k69 (fun hm => absurd (List.mem_singleton.1 hm) ne_b5_b9)
 replace hB := hB.new k69 (fun x hx => .inl ((List.mem_singleton.1 hx) ▸ ge_b9))
 clear z41
 replace hb17 : Bk w69 b9 _ [.int .u64 hi20, .int .u64 lo20] := hb17
 refine ow_nil (tw_seq (tw_region (ow_g (g_fa Try.underlying106 rfl ty24 (by decide) rfl) rfl ?_)))
 refine ow_g (g_ldb sc24 rfl hb17 rfl) rfl ?_
 refine ow_g (g_mv rfl) rfl (ow_g (g_callv (vs := [_, _, _]) rfl (add64_run _ _ _ (In.wk rb20 rfl) (In.wk r25 rfl) (In.wk (in_c 0) rfl))) rfl ?_)
 refine ow_g (g_mv rfl) rfl (ow_gx (e' := ((lo20 + z39 + 0) % 18446744073709551616)) (lo := 0) (hi := 18446744073709551615) (g_ext (vs := [_, _]) rfl rfl) (rfl) (In.wk (in_mod _ (by decide)) rfl) rfl (fun z42 h26 r26 => ?_))
 refine ow_gx (e' := ((lo20 + z39 + 0) / 18446744073709551616)) (lo := 0) (hi := 1) (g_ext (vs := [_, _]) rfl rfl) (rfl) (In.wk (in_div (in_add (in_add rb20 r25) (in_c 0)) (by decide)) rfl) rfl (fun z43 h27 r27 => ?_)
 refine ow_g (g_as rfl) rfl (ow_g (g_as rfl) rfl (ow_nil (tw_keep [(4, _), (10, _), (149, _), (150, _), (13, _), (12, _), (14, _), (15, _)] ⟨rfl, rfl, rfl, rfl, rfl, rfl, rfl, rfl, trivial⟩ ?_)))
 refine tw_seq (tw_region (ow_g (g_mv rfl) rfl (ow_g (g_mv rfl) rfl (ow_gx (e' := z42 % 2251799813685248) (lo := 0) (hi := 2251799813685247) (g_and rfl rfl) (and_mod 51 r26 rfl rfl rfl rfl rfl rfl) (In.wk (in_mod _ (by decide)) rfl) rfl (fun z44 h28 r28 => ?_)))))
 refine ow_g (g_ixa Try.underlying26 ty24 rfl rfl (by decide)) rfl ?_
 refine ow_d0 (d_st ty24 rfl rfl rfl hb15 rfl) ?_
 rintro _ w70 ⟨hb18, k70, z45⟩
 replace hb3 := hb3.keep k70 (fun hm => absurd (List.mem_singleton.1 hm) ne_b3_b5)
 replace hb17 := hb17.keep k70 (fun hm => absurd (List.mem_singleton.1 hm) (Ne.symm ne_b5_b9))
 replace hB := hB.new k70 (fun x hx => .inl ((List.mem_singleton.1 hx) ▸ ge_b5))
 clear z45
 replace hb18 : Bk w70 b5 _ [.int .u64 z14, .int .u64 z24, .int .u64 z34, .int .u64 z44, .int .u64 0] := hb18
 refine ow_nil (tw_region (ow_g (g_fa Try.underlying106 rfl ty24 (by decide) rfl) rfl ?_))
 refine ow_g (g_ldb sc24 rfl hb17 rfl) rfl ?_
 refine ow_g (g_mv rfl) rfl (ow_gx (e' := hi20 + z43) (lo := 0) (hi := 25288767438848) (g_addw rfl rfl) (wrap_fit (in_add ra20 r27) rfl) (In.wk (in_add ra20 r27) rfl) rfl (fun z46 h29 r29 => ?_))
 refine ow_gx (e' := z46 * 8192) (lo := 0) (hi := 207165582859042816) (g_shlp (m := 8192) rfl rfl (by decide) rfl) (wrap_fit (in_mulc r29 (by decide)) rfl) (In.wk (in_mulc r29 (by decide)) rfl) rfl (fun z47 h30 r30 => ?_)
 refine ow_g (g_mv rfl) rfl (ow_gx (e' := z42 / 2251799813685248) (lo := 0) (hi := 8191) (g_shrp (m := 2251799813685248) rfl rfl (by decide) rfl) (rfl) (In.wk (in_div r26 (by decide)) rfl) rfl (fun z48 h31 r31 => ?_))
 refine ow_gx (e' := z47 + z48) (lo := 0) (hi := 207165582859051007) (g_or rfl rfl) (or_join 13 (m := 8192) r30 rfl r31 rfl rfl rfl rfl (eq_mod h30 (Int.mul_emod_left _ _)) rfl rfl) (In.wk (in_add r30 r31) rfl) rfl (fun z49 h32 r32 => ?_)
 refine ow_g (g_as rfl) rfl (ow_nil (tw_keep [(4, _), (10, _), (149, _), (150, _), (11, _)] ⟨rfl, rfl, rfl, rfl, rfl, trivial⟩ ?_))
 refine tw_b (tw_region (ow_g (g_fold (j := 4) (g_addw rfl rfl) (by decide)) rfl ?_))
 refine ow_g (g_mv rfl) rfl (ow_nil (tw_lp (tw_seq (tw_region (ow_g (g_lt rfl rfl) rfl ?_)))))
 refine ow_nil (tw_seq (tw_ifT rfl (by decide) ?_))
 refine tw_skip (tw_seq (tw_block (tw_seq (tw_region (ow_g (g_mv rfl) rfl (ow_g (g_ixva (cs' := [_, _]) Try.underlying108 ty106 ag106 rfl rfl (by decide) rfl) rfl ?_))))))
 refine ow_d (d_alloc ty106) rfl ?_
 rintro _ w71 ⟨b10, rfl, eb10, hb19, k71, z50⟩
 have ge_b10 : w.heap.size ≤ b10 := by have := hB.size; omega
 have ne_b3_b10 : b3 ≠ b10 := by have := hb3.lt; omega
 have ne_b5_b10 : b5 ≠ b10 := by have := hb18.lt; omega
 replace hb3 := hb3.keep0 k71
 replace hb18 := hb18.keep0 k71
 replace hB := hB.trans k71
 clear eb10 z50
 refine ow_g (g_as rfl) rfl (ow_d0 (d_sta ty106 rfl rfl rfl (by simp only [List.forall_mem_cons]; refine ⟨rfl, rfl, fun v hv => by cases hv⟩) hb19 rfl) ?_)
 rintro _ w72 ⟨hb20, k72, z51⟩
 replace hb3 := hb3.keep k72 (fun hm => absurd (List.mem_singleton.1 hm) ne_b3_b10)
 replace hb18 := hb18.keep k72 (fun hm => absurd (List.mem_singleton.1 hm) ne_b5_b10)
 replace hB := hB.new k72 (fun x hx => .inl ((List.mem_singleton.1 hx) ▸ ge_b10))
 clear z51
 replace hb20 : Bk w72 b10 _ [.int .u64 hi25, .int .u64 lo25] := hb20
 refine ow_nil (tw_seq (tw_region (ow_g (g_fa Try.underlying106 rfl ty24 (by decide) rfl) rfl ?_)))
 refine ow_g (g_ldb sc24 rfl hb20 rfl) rfl ?_
 refine ow_g (g_mv rfl) rfl (ow_g (g_callv (vs := [_, _, _]) rfl (add64_run _ _ _ (In.wk rb25 rfl) (In.wk r32 rfl) (In.wk (in_c 0) rfl))) rfl ?_)
 refine ow_g (g_mv rfl) rfl (ow_gx (e' := ((lo25 + z49 + 0) % 18446744073709551616)) (lo := 0) (hi := 18446744073709551615) (g_ext (vs := [_, _]) rfl rfl) (rfl) (In.wk (in_mod _ (by decide)) rfl) rfl (fun z52 h33 r33 => ?_))
 refine ow_gx (e' := ((lo25 + z49 + 0) / 18446744073709551616)) (lo := 0) (hi := 1) (g_ext (vs := [_, _]) rfl rfl) (rfl) (In.wk (in_div (in_add (in_add rb25 r32) (in_c 0)) (by decide)) rfl) rfl (fun z53 h34 r34 => ?_)
 refine ow_g (g_as rfl) rfl (ow_g (g_as rfl) rfl (ow_nil (tw_keep [(4, _), (10, _), (149, _), (150, _), (13, _), (12, _), (14, _), (15, _)] ⟨rfl, rfl, rfl, rfl, rfl, rfl, rfl, rfl, trivial⟩ ?_)))
 refine tw_seq (tw_region (ow_g (g_mv rfl) rfl (ow_g (g_mv rfl) rfl (ow_gx (e' := z52 % 2251799813685248) (lo := 0) (hi := 2251799813685247) (g_and rfl rfl) (and_mod 51 r33 rfl rfl rfl rfl rfl rfl) (In.wk (in_mod _ (by decide)) rfl) rfl (fun z54 h35 r35 => ?_)))))
 refine ow_g (g_ixa Try.underlying26 ty24 rfl rfl (by decide)) rfl ?_
 refine ow_d0 (d_st ty24 rfl rfl rfl hb18 rfl) ?_
 rintro _ w73 ⟨hb21, k73, z55⟩
 replace hb3 := hb3.keep k73 (fun hm => absurd (List.mem_singleton.1 hm) ne_b3_b5)
 replace hb20 := hb20.keep k73 (fun hm => absurd (List.mem_singleton.1 hm) (Ne.symm ne_b5_b10))
 replace hB := hB.new k73 (fun x hx => .inl ((List.mem_singleton.1 hx) ▸ ge_b5))
 clear z55
 replace hb21 : Bk w73 b5 _ [.int .u64 z14, .int .u64 z24, .int .u64 z34, .int .u64 z44, .int .u64 z54] := hb21
 refine ow_nil (tw_region (ow_g (g_fa Try.underlying106 rfl ty24 (by decide) rfl) rfl ?_))
 refine ow_g (g_ldb sc24 rfl hb20 rfl) rfl ?_
 refine ow_g (g_mv rfl) rfl (ow_gx (e' := hi25 + z53) (lo := 0) (hi := 5497558138880) (g_addw rfl rfl) (wrap_fit (in_add ra25 r34) rfl) (In.wk (in_add ra25 r34) rfl) rfl (fun z56 h36 r36 => ?_))
 refine ow_gx (e' := z56 * 8192) (lo := 0) (hi := 45035996273704960) (g_shlp (m := 8192) rfl rfl (by decide) rfl) (wrap_fit (in_mulc r36 (by decide)) rfl) (In.wk (in_mulc r36 (by decide)) rfl) rfl (fun z57 h37 r37 => ?_)
 refine ow_g (g_mv rfl) rfl (ow_gx (e' := z52 / 2251799813685248) (lo := 0) (hi := 8191) (g_shrp (m := 2251799813685248) rfl rfl (by decide) rfl) (rfl) (In.wk (in_div r33 (by decide)) rfl) rfl (fun z58 h38 r38 => ?_))
 refine ow_gx (e' := z57 + z58) (lo := 0) (hi := 45035996273713151) (g_or rfl rfl) (or_join 13 (m := 8192) r37 rfl r38 rfl rfl rfl rfl (eq_mod h37 (Int.mul_emod_left _ _)) rfl rfl) (In.wk (in_add r37 r38) rfl) rfl (fun z59 h39 r39 => ?_)
 refine ow_g (g_as rfl) rfl (ow_nil (tw_keep [(4, _), (10, _), (149, _), (150, _), (11, _)] ⟨rfl, rfl, rfl, rfl, rfl, trivial⟩ ?_))
 refine tw_b (tw_region (ow_g (g_fold (j := 5) (g_addw rfl rfl) (by decide)) rfl ?_))
 refine ow_g (g_mv rfl) rfl (ow_nil (tw_lp (tw_seq (tw_region (ow_g (g_lt rfl rfl) rfl ?_)))))
 refine ow_nil (tw_seq (tw_ifF rfl (by decide) ?_))
 refine tw_exit rfl ?_
 refine tw_seq (tw_region (ow_g (g_ixa Try.underlying26 ty24 rfl rfl (by decide)) rfl ?_))
 refine ow_g (g_ldb sc24 rfl hb21 rfl) rfl ?_
 refine ow_g (g_mv rfl) rfl (ow_gx (e' := 19 * z59) (lo := 0) (hi := 855683929200549869) (g_mulw rfl rfl) (wrap_fit (in_cmul r39 (by decide)) rfl) (In.wk (in_cmul r39 (by decide)) rfl) rfl (fun z60 h40 r40 => ?_))
 refine ow_gx (e' := z14 + z60) (lo := 0) (hi := 857935729014235116) (g_addw rfl rfl) (wrap_fit (in_add r7 r40) rfl) (In.wk (in_add r7 r40) rfl) rfl (fun z61 h41 r41 => ?_)
 refine ow_g (g_ixa Try.underlying26 ty24 rfl rfl (by decide)) rfl ?_
 refine ow_d0 (d_st ty24 rfl rfl rfl hb21 rfl) ?_
 rintro _ w74 ⟨hb22, k74, z62⟩
 replace hb3 := hb3.keep k74 (fun hm => absurd (List.mem_singleton.1 hm) ne_b3_b5)
 replace hB := hB.new k74 (fun x hx => .inl ((List.mem_singleton.1 hx) ▸ ge_b5))
 clear z62
 replace hb22 : Bk w74 b5 _ [.int .u64 z61, .int .u64 z24, .int .u64 z34, .int .u64 z44, .int .u64 z54] := hb22
 refine ow_nil (tw_keep [(4, _), (10, _)] ⟨rfl, rfl, trivial⟩ ?_)
 refine tw_seq (tw_region (ow_g (g_ldab (cs' := [_, _, _, _, _]) ag26 ty26 rfl hb22 rfl rfl) rfl ?_))
 refine ow_d (d_call (vs := [_]) rfl (carry_any (vecN [z61, z24, z34, z44, z54]) (In.wk r41 rfl) (In.wk r14 rfl) (In.wk r21 rfl) (In.wk r28 rfl) (In.wk r35 rfl) _)) rfl ?_
 rintro _ w75 ⟨hh1, c01, c11, c21, c31, c41, rfl, e01, e11, e21, e31, e41, g01, g11, g21, g31, g41, gv1, k75⟩
 replace hb3 := hb3.keep0 k75
 replace hb22 := hb22.keep0 k75
 replace hB := hB.trans k75
 replace e01 : c01 = z61 / 2251799813685248 := e01
 replace e11 : c11 = (z24 + c01) / 2251799813685248 := e11
 replace e21 : c21 = (z34 + c11) / 2251799813685248 := e21
 replace e31 : c31 = (z44 + c21) / 2251799813685248 := e31
 replace e41 : c41 = (z54 + c31) / 2251799813685248 := e41
 replace g01 : hh1 0 = z61 % 2251799813685248 + 19 * c41 := g01
 replace g11 : hh1 1 = (z24 + c01) % 2251799813685248 := g11
 replace g21 : hh1 2 = (z34 + c11) % 2251799813685248 := g21
 replace g31 : hh1 3 = (z44 + c21) % 2251799813685248 := g31
 replace g41 : hh1 4 = (z54 + c31) % 2251799813685248 := g41
 replace gv1 : val5 hh1 + c41 * 57896044618658097711785492504343953926634992332820282019728792003956564819949 = z61 + z24 * 2251799813685248 + z34 * 5070602400912917605986812821504 + z44 * 11417981541647679048466287755595961091061972992 + z54 * 25711008708143844408671393477458601640355247900524685364822016 := gv1
 obtain ⟨r42, r43, r44, r45, r46⟩ := carry_bounds (t := 2251799813685266) e01 e11 e21 e31 e41 g01 g11 g21 g31 g41 (In.wk r41 rfl : In _ 0 857935729014235116) (In.wk r14 rfl : In _ 0 2251799813685247) (In.wk r21 rfl : In _ 0 2251799813685247) (In.wk r28 rfl : In _ 0 2251799813685247) (In.wk r35 rfl : In _ 0 2251799813685247) rfl
 refine ow_d0 (d_sta ty26 rfl rfl rfl ivF_one hb3 rfl) ?_
 rintro _ w76 ⟨hb23, k76, z63⟩
 replace hb22 := hb22.keep k76 (fun hm => absurd (List.mem_singleton.1 hm) (Ne.symm ne_b3_b5))
 replace hB := hB.new k76 (fun x hx => .inl ((List.mem_singleton.1 hx) ▸ ge_b3))
 clear z63
 replace hb23 : Bk w76 b3 _ [.int .u64 (hh1 0), .int .u64 (hh1 1), .int .u64 (hh1 2), .int .u64 (hh1 3), .int .u64 (hh1 4)] := hb23
 refine ow_nil (tw_retc hfin Try.results70 rfl (run_loadAgg ag26 ty26 ‹_› rfl)  ?_)
 have t0 : hi5 * 18446744073709551616 + lo5 = f 0 * g 0 + 19 * (f 1 * g 4) + 19 * (f 2 * g 3) + 19 * (f 3 * g 2) + 19 * (f 4 * g 1) := by
  have a_eq1 : _ = _ := eq1
  have a_eq2 : _ = _ := eq2
  have a_eq3 : _ = _ := eq3
  have a_eq4 : _ = _ := eq4
  have a_eq5 : _ = _ := eq5
  have qz7 : (f 1) * z7 = 19 * ((f 1) * (g 4)) := by rw [show z7 = _ from h4]; exact Int.mul_left_comm _ _ _
  have qz6 : (f 2) * z6 = 19 * ((f 2) * (g 3)) := by rw [show z6 = _ from h3]; exact Int.mul_left_comm _ _ _
  have qz5 : (f 3) * z5 = 19 * ((f 3) * (g 2)) := by rw [show z5 = _ from h2]; exact Int.mul_left_comm _ _ _
  have qz4 : (f 4) * z4 = 19 * ((f 4) * (g 1)) := by rw [show z4 = _ from h1]; exact Int.mul_left_comm _ _ _
  omega
 have t1 : hi10 * 18446744073709551616 + lo10 = f 0 * g 1 + f 1 * g 0 + 19 * (f 2 * g 4) + 19 * (f 3 * g 3) + 19 * (f 4 * g 2) := by
  have a_eq6 : _ = _ := eq6
  have a_eq7 : _ = _ := eq7
  have a_eq8 : _ = _ := eq8
  have a_eq9 : _ = _ := eq9
  have a_eq10 : _ = _ := eq10
  have qz7 : (f 2) * z7 = 19 * ((f 2) * (g 4)) := by rw [show z7 = _ from h4]; exact Int.mul_left_comm _ _ _
  have qz6 : (f 3) * z6 = 19 * ((f 3) * (g 3)) := by rw [show z6 = _ from h3]; exact Int.mul_left_comm _ _ _
  have qz5 : (f 4) * z5 = 19 * ((f 4) * (g 2)) := by rw [show z5 = _ from h2]; exact Int.mul_left_comm _ _ _
  omega
 have t2 : hi15 * 18446744073709551616 + lo15 = f 0 * g 2 + f 1 * g 1 + f 2 * g 0 + 19 * (f 3 * g 4) + 19 * (f 4 * g 3) := by
  have a_eq11 : _ = _ := eq11
  have a_eq12 : _ = _ := eq12
  have a_eq13 : _ = _ := eq13
  have a_eq14 : _ = _ := eq14
  have a_eq15 : _ = _ := eq15
  have qz7 : (f 3) * z7 = 19 * ((f 3) * (g 4)) := by rw [show z7 = _ from h4]; exact Int.mul_left_comm _ _ _
  have qz6 : (f 4) * z6 = 19 * ((f 4) * (g 3)) := by rw [show z6 = _ from h3]; exact Int.mul_left_comm _ _ _
  omega
 have t3 : hi20 * 18446744073709551616 + lo20 = f 0 * g 3 + f 1 * g 2 + f 2 * g 1 + f 3 * g 0 + 19 * (f 4 * g 4) := by
  have a_eq16 : _ = _ := eq16
  have a_eq17 : _ = _ := eq17
  have a_eq18 : _ = _ := eq18
  have a_eq19 : _ = _ := eq19
  have a_eq20 : _ = _ := eq20
  have qz7 : (f 4) * z7 = 19 * ((f 4) * (g 4)) := by rw [show z7 = _ from h4]; exact Int.mul_left_comm _ _ _
  omega
 have t4 : hi25 * 18446744073709551616 + lo25 = f 0 * g 4 + f 1 * g 3 + f 2 * g 2 + f 3 * g 1 + f 4 * g 0 := by
  have a_eq21 : _ = _ := eq21
  have a_eq22 : _ = _ := eq22
  have a_eq23 : _ = _ := eq23
  have a_eq24 : _ = _ := eq24
  have a_eq25 : _ = _ := eq25
  omega
 exact ⟨hh1, rfl, ⟨(In.wk r42 rfl), (In.wk r43 rfl), (In.wk r44 rfl), (In.wk r45 rfl), (In.wk r46 rfl), mul_fp hfv hgv (z59 + c41) _ _ _ _ _ t0 t1 t2 t3 t4 (by clear t0 t1 t2 t3 t4; simp only [Eqn] at h5 h6 h7 h8 h9 h10 h11 h12 h13 h14 h15 h16 h17 h18 h19 h20 h21 h22 h23 h24 h25 h26 h27 h28 h29 h30 h31 h32 h33 h34 h35 h36 h37 h38 h39 h40 h41; omega)⟩, hB⟩
end Go.Proofs.Ytkngeapegpehpaa.W
