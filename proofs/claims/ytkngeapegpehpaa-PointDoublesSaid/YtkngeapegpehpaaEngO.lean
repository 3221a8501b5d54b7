/- The walking engine, part 15: more laws. Nothing here names a program. -/
import Derived.Test.YtkngeapegpehpaaEngN
import Derived.Stop.BytesEq
namespace Go.Eng
open Go Go.IntWalk
theorem or_in {k : IntKind} {x y e : Int} (hk : uns k = true) (he : bits .or k x y = e) : In e 0 (kmax k) := he ▸ bits_in hk _ _ _
theorem zero_or {k : IntKind} {y a b : Int} (hk : uns k = true) (hy : In y a b) (h0 : decide (0 ≤ a) = true) (hf : fits k a b = true) : bits .or k 0 y = y := by
  have h1 := of_decide_eq_true h0
  have hf' := hf
  simp only [fits, Bool.and_eq_true, decide_eq_true_eq] at hf'
  have hkm : kmax k + 1 = 2 ^ k.bits := by cases k <;> first | (exact absurd hk (by decide)) | rfl
  have hb : y < 2 ^ k.bits := by unfold In at hy; omega
  have h2 := bits_join k k.bits (Nat.le_refl _) (wraps_of hk) k.bits 0 y (Int.le_refl _) (Int.zero_emod _) (Int.pow_pos (by decide)) (by unfold In at hy; omega) hb hb
  rw [h2, Int.zero_add]
section
variable {P : Program} {n : Nat} {f : Fr} {w : World} {ty : TypeId} {fin : Exit → Act → World → Prop} {k : List KI}
theorem results_cc {fn : Func} {a : Act} {w : World} {t u : Nat} {T U : TypeId} {b c : Addr} {v x : Value} (h : fn.results = #[.cell t T, .cell u U]) (h1 : a.tmps.getD t undef = .pointer (some b)) (h3 : (loadVar T b).run P w = .ok v w) (h2 : a.tmps.getD u undef = .pointer (some c)) (h4 : (loadVar U c).run P w = .ok x w) : (results fn a.tmps).run P w = .ok (.tuple #[v, x]) w := by
  have h1' : (a.tmps[t]?).getD undef = .pointer (some b) := by rw [← Array.getD_eq_getD_getElem?]; exact h1
  have h2' : (a.tmps[u]?).getD undef = .pointer (some c) := by rw [← Array.getD_eq_getD_getElem?]; exact h2
  simp [results, h, h1, h1', h2, h2', asAddr, h3, h4]
theorem tw_retcc {fn : Func} {R : Value → World → Prop} (hfin : ∀ a w, (a.defers = [] ∧ ∃ v, (results fn a.tmps).run P w = .ok v w ∧ R v w) → fin .ret a w ∧ fin .normal a w) {t u : Nat} {T U : TypeId} {b c : Addr} {v x : Value} (hres : fn.results = #[.cell t T, .cell u U]) (h1 : f.get t = some (.pointer (some b))) (h3 : (loadVar T b).run P w = .ok v w) (h2 : f.get u = some (.pointer (some c))) (h4 : (loadVar U c).run P w = .ok x w) (hR : R (.tuple #[v, x]) w) :
    TW P fin n (.c .ret :: k) f w := fun a ha => wp_ret (by
  rw [KQ_ret]
  exact (hfin a w ⟨ha.defers, _, results_cc hres (ha.get t _ h1) h3 (ha.get u _ h2) h4, hR⟩).1)
/-! guarded operations in plans -/
section
variable {l : List Oper} {p s0 i : Nat} {T cs r : List Nat} {Fin : Fr → World → Prop}
theorem pa_gdk (f1 f2 : Fr) {op : Op} {d : Nat} {pos : String} {aft : Array Edge} {j : Nat} {want c : Bool} {V : Value} (ho : l[i]? = some ⟨some d, op, ty, pos, aft, some (j, want)⟩) (hc : cs.contains i = true) (hs : Fr.sub f1 f) (hk : slotsOk l p i f1 = true)
    (hG : Grd n l.toArray f1 j want c) (hu : UndF c f2 f1) (hV : cblk V = []) (hr : ∀ w1, Keep [] w w1 → c = true → Does P n f2 w1 op ty (fun v w' => v = V ∧ Keep [] w1 w'))
    (h : ∀ w', Keep [] w w' → PA P n l p T s0 (fun i => cs.contains i) Fin r ((d, gv c V) :: f) w') : PA P n l p T s0 (fun i => cs.contains i) Fin (i :: r) f w := by
  unfold PA
  refine ⟨_, f1, ho, hs, hk, .inl ⟨hc, fun w1 k1 a ha K Q hK => ?_⟩⟩
  have hg := hG a ha
  have hwt : Region.wanted ⟨some d, op, ty, pos, aft, some (j, want)⟩ (yielded l.toArray a.tmps) = c := hg
  rw [hwt]
  refine ⟨fun hct => ?_, fun hcf => ?_⟩
  · refine hr w1 k1 hct a (ha.undF hct hu) _ _ _ _ _ _ (fun v w' hv => hK _ _ ⟨hv.2.weak, ?_, ?_⟩)
    · rw [hv.1, hV]; intro x hx; cases hx
    · have := h w' (k1.trans hv.2)
      rw [gv_true hct] at this
      rw [frPut_at ho, hv.1]; exact this
  · refine hK _ _ ⟨Keep.refl _ _, (fun x hx => by cases hx), ?_⟩
    have := h w1 k1
    rw [gv_false hcf] at this
    rw [frPut_at ho]; exact this
theorem pa_pand {x y : Tmp} {d : Nat} {pos : String} {aft : Array Edge} {j dj : Nat} {want c c2 b b2 : Bool} (f1 : Fr) (ho : l[i]? = some ⟨some d, .pick (.tmp x) (.tmp y) (.const (.bool false)), ty, pos, aft, some (j, want)⟩) (hc : cs.contains i = false) (hs : Fr.sub f1 f) (hk : slotsOk l p i f1 = true)
    (hG : Grd n l.toArray f1 j want c) (hx : Und c f1 x (.bool b)) (hy : f1.get y = some (gv c2 (.bool b2))) (hc2 : c2 = (c && (b == true))) (hxy : Nat.beq y x = false)
    (h : PA P n l p T s0 (fun i => cs.contains i) Fin r ((d, gv c (.bool (b && b2))) :: f) w) : PA P n l p T s0 (fun i => cs.contains i) Fin (i :: r) f w := by
  cases c with
  | false => exact pa_gg (c := false) f1 [] ho hc hs hk hG trivial (fun h => by cases h) h
  | true =>
    have hc2' : c2 = (b == true) := by rw [hc2, Bool.true_and]
    obtain ⟨u, hu, hu'⟩ := hx
    have hu2 := hu' rfl
    subst hu2
    refine pa_gg f1 [(y, gv c2 (.bool b2)), (x, .bool b)] ho hc hs hk hG ⟨und0 hy, und0 hu, trivial⟩ (fun _ w' _ => g_pand (x := .tmp x) (y := .tmp y) ?_ ?_ hc2') h
    · show Fr.get _ x = _
      simp only [Fr.get, hxy, cond_false, Nat.beq_refl, cond_true]
    · show Fr.get _ y = _
      simp only [Fr.get, Nat.beq_refl, cond_true]
theorem pa_por {x y : Tmp} {d : Nat} {pos : String} {aft : Array Edge} {j dj : Nat} {want c c2 b b2 : Bool} (f1 : Fr) (ho : l[i]? = some ⟨some d, .pick (.tmp x) (.const (.bool true)) (.tmp y), ty, pos, aft, some (j, want)⟩) (hc : cs.contains i = false) (hs : Fr.sub f1 f) (hk : slotsOk l p i f1 = true)
    (hG : Grd n l.toArray f1 j want c) (hx : Und c f1 x (.bool b)) (hy : f1.get y = some (gv c2 (.bool b2))) (hc2 : c2 = (c && (b == false))) (hxy : Nat.beq y x = false)
    (h : PA P n l p T s0 (fun i => cs.contains i) Fin r ((d, gv c (.bool (b || b2))) :: f) w) : PA P n l p T s0 (fun i => cs.contains i) Fin (i :: r) f w := by
  cases c with
  | false => exact pa_gg (c := false) f1 [] ho hc hs hk hG trivial (fun h => by cases h) h
  | true =>
    have hc2' : c2 = (b == false) := by rw [hc2, Bool.true_and]
    obtain ⟨u, hu, hu'⟩ := hx
    have hu2 := hu' rfl
    subst hu2
    refine pa_gg f1 [(y, gv c2 (.bool b2)), (x, .bool b)] ho hc hs hk hG ⟨und0 hy, und0 hu, trivial⟩ (fun _ w' _ => g_por (x := .tmp x) (y := .tmp y) ?_ ?_ hc2') h
    · show Fr.get _ x = _
      simp only [Fr.get, hxy, cond_false, Nat.beq_refl, cond_true]
    · show Fr.get _ y = _
      simp only [Fr.get, Nat.beq_refl, cond_true]
end
/-- A slice as the array that it shows. -/
theorem g_sap {x : Operand} {t e : TypeId} {m : Nat} {s m' : Nat} {v : Value} {cs : List Value} (ht : P.underlying t = some (.array m e)) (hx : f.ev x = some v) (hr : Rd w s v m' cs) (h : Nat.ble m m' = true) (h0 : Nat.blt 0 m = true) :
    Gives P n f w (.sliceToArrayPointer t x) ty (.pointer (some (ea v 0))) w := by
  intro a ha dst pos aft g
  obtain ⟨A, c, rfl, h1, h2, h3, h4, h5⟩ := hr
  have hle := Nat.le_of_ble_eq_true h
  have hlt := blt_lt h0
  cases A with
  | none => have := h4 rfl; omega
  | some a0 =>
    have hn : ¬ m' < m := by omega
    simp [execOp, ha.ev hx, Instr.arrayAt, run_underlying ht, hn, ea, Addr.add]
theorem g_ldaB {x : Operand} {t : TypeId} {zs : List Value} {s b : Nat} {v : Value} {xs : List UInt8} (ht : agB P t = true) (hs : Ty P t zs s b) (hx : f.ev x = some (.pointer (some (ea v 0)))) (hr : RdB w v xs) (hl : xs.length = s) (h0 : Nat.blt 0 s = true) :
    Gives P n f w (.load t x) ty (.agg (bv xs).toArray) w := by
  refine g_lda ht hs hx ?_ (by rw [bv_length]; exact hl)
  obtain ⟨A, c, rfl, h1, h2, h3, h4, h5⟩ := hr
  have hlt := blt_lt h0
  cases A with
  | none => have := h4 rfl; omega
  | some a0 => have := h5 a0 rfl; simpa [ea, Addr.add] using this
theorem g_eqB {t e u : TypeId} {m : Nat} {x y : Operand} {xs ys : List UInt8} (ht : P.underlying t = some (.array m e)) (he : P.underlying e = some (.int .u8)) (hs : ∀ w, (sizeOf e).run P w = .ok 1 w) (hg : P.eqGuardType P.depth t = false)
    (hx : f.ev x = some (.agg (bv xs).toArray)) (hy : f.ev y = some (.agg (bv ys).toArray)) (hxl : xs.length = m) (hyl : ys.length = m) :
    Gives P n f w (.binOp .eql t x y u) ty (.bool (decide (xs = ys))) w :=
  run_bin hx hy (fun x y => run_eqGuard_agg w _ _ _ _ _ _ hg) (by
    have := run_eql_bytes (P := P) w t e m ht he hs xs ys hxl hyl
    have e1 : (xs == ys) = decide (xs = ys) := by cases h : xs == ys <;> simp_all
    rw [e1] at this
    exact this)
end
end Go.Eng
