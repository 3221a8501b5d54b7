/- Contracts and laws, part 3 of 6: what each function of the program and of the reference computes, shown once. -/
import Derived.Below
import Derived.ChangeOld
import Derived.Lib.MakeNoZero
import Derived.OpenShut
import Derived.ProofKit
import Derived.ShutString
import Derived.SizedLaws
import Derived.Stop.BytesEq
import Derived.WalkKit
import Derived.Test.YtjfmmoonpdifcaaDoorQfb
set_option maxRecDepth 100000
set_option maxHeartbeats 4000000
set_option linter.unusedVariables false
set_option linter.unusedSimpArgs false
namespace Go.Eng
open Go Go.IntWalk
section
variable {P : Program} {n : NN} {f : Fr} {w : World} {ty : TypeId} {fin : Exit → Act → World → Prop} {k : List KI} {l : List Oper} {p s0 : Nat} {O : Nat → Prop} {T cs r : List Nat} {Fin : Fr → World → Prop} {i : Nat}
theorem dc {fl : List (Nat × TypeId × List Value)} (h : ∀ w2, Keep [] w w2 → FinA P fin n k l p s0 cs f fl [] f w2) : PA P n l p T O (fun i => cs.contains i) (fun f' w' => ∀ w2, Keep [] w' w2 → FinA P fin n k l p s0 cs f' fl [] f' w2) [] f w := by unfold PA; exact h
theorem cT {fc : Fr} {seen : List Nat} (h : OW P fin n k l.toArray (l.drop p) f w) : FinA P fin n k l p s0 cs fc [] seen f w := h
theorem gn {d : Nat} {op : Op} {pos : String} {aft : Array Edge} {g : Option (Nat × Bool)} {v : Value} {f : Fr} (ho : l[i]? = some ⟨some d, op, ty, pos, aft, g⟩) : frPut l i v f = (d, v) :: f := by
 unfold frPut hasDst; rw [ho, gw ho]; rfl
theorem pa_g (f1 : Fr) {op : Op} {d : Nat} {pos : String} {aft : Array Edge} {v : Value} (ho : l[i]? = some ⟨some d, op, ty, pos, aft, none⟩) (hc : cs.contains i = false) (hs : Fr.sub f1 f) (hk : slotsOk l p i f1 = true)
   (hr : ∀ w', Keep T w w' → Gives P n f1 w' op ty v w') (h : PA P n l p T O (fun i => cs.contains i) Fin r ((d, v) :: f) w) : PA P n l p T O (fun i => cs.contains i) Fin (i :: r) f w := by
 unfold PA
 exact ⟨_, f1, ho, hs, hk, .inr ⟨hc, v, fun w' hw => ji (hr w' hw), by rw [gn ho]; exact h⟩⟩
theorem ix (f1 : Fr) {op : Op} {d : Nat} {pos : String} {aft : Array Edge} (ho : l[i]? = some ⟨some d, op, ty, pos, aft, none⟩) (hc : cs.contains i = true) (hs : Fr.sub f1 f) (hk : slotsOk l p i f1 = true)
   (hr : ∀ w1, Keep [] w w1 → Does P n f1 w1 op ty (fun v w' => Keep T w1 w' ∧ (∀ x, x ∈ cblk v → (O x ∨ w1.heap.size ≤ x) ∧ x < w'.heap.size) ∧ PA P n l p T O (fun i => cs.contains i) Fin r ((d, v) :: f) w')) : PA P n l p T O (fun i => cs.contains i) Fin (i :: r) f w := by
 unfold PA
 refine ⟨_, f1, ho, hs, hk, .inl ⟨hc, fun w1 k1 a ha K Q hK => ⟨fun _ => ?_, fun h => by simp [Region.wanted] at h⟩⟩⟩
 exact hr w1 k1 a ha _ _ _ _ _ _ (fun v w' hv => hK _ _ ⟨hv.1, hv.2.1, by rw [gn ho]; exact hv.2.2⟩)
end
end Go.Eng
namespace Go.Eng
open Go Go.IntWalk
section
variable {P : Program} {n : NN} {f : Fr} {w : World} {ty : TypeId} {fin : Exit → Act → World → Prop} {k : List KI} {l : List Oper} {p s0 : Nat} {O : Nat → Prop} {T cs r : List Nat} {Fin : Fr → World → Prop} {i : Nat}
theorem bY (t : Nat) {op : Op} {d : Nat} {pos : String} {aft : Array Edge} {v v0 : Value} (ho : l[i]? = some ⟨some d, op, ty, pos, aft, none⟩) (hc : cs.contains i = false) (hs : f.get t = some v0) (hk : slotsOk l p i [(t, v0)] = true)
   (hr : ∀ w', Keep T w w' → Gives P n [(t, v0)] w' op ty v w') (h : PA P n l p T O (fun i => cs.contains i) Fin r ((d, v) :: f) w) : PA P n l p T O (fun i => cs.contains i) Fin (i :: r) f w := pa_g [(t, v0)] ho hc ⟨hs, trivial⟩ hk hr h
theorem aq (t : Nat) {op : Op} {d : Nat} {pos : String} {aft : Array Edge} {v v0 : Value} (ho : l[i]? = some ⟨some d, op, ty, pos, aft, none⟩) (hc : cs.contains i = false) (hs : f.get t = some v0) (hk : slotsOk l p i [(t, v0)] = true)
   (hr : ∀ w', Keep T w w' → Gives P n [(t, v0)] w' op ty v w') (h : PW P n l p T (fun i => cs.contains i) Fin r ((d, v) :: f) w) : PW P n l p T (fun i => cs.contains i) Fin (i :: r) f w := pw_g [(t, v0)] ho hc ⟨hs, trivial⟩ hk hr h
theorem cM (t : Nat) {x : Operand} {d : Nat} {pos : String} {aft : Array Edge} {v v0 : Value} (ho : l[i]? = some ⟨some d, .move x, ty, pos, aft, none⟩) (hc : cs.contains i = false) (hs : f.get t = some v0) (hk : slotsOk l p i [(t, v0)] = true)
   (hx : Fr.ev [(t, v0)] x = some v) (h : PA P n l p T O (fun i => cs.contains i) Fin r ((d, v) :: f) w) : PA P n l p T O (fun i => cs.contains i) Fin (i :: r) f w := bY t ho hc hs hk (fun _ _ => av hx) h
theorem cZ (t t2 : Nat) {op : Op} {d : Nat} {pos : String} {aft : Array Edge} {v v0 v1 : Value} (ho : l[i]? = some ⟨some d, op, ty, pos, aft, none⟩) (hc : cs.contains i = false) (hs : f.get t = some v0) (hs2 : f.get t2 = some v1) (hk : slotsOk l p i [(t, v0), (t2, v1)] = true)
   (hr : ∀ w', Keep T w w' → Gives P n [(t, v0), (t2, v1)] w' op ty v w') (h : PA P n l p T O (fun i => cs.contains i) Fin r ((d, v) :: f) w) : PA P n l p T O (fun i => cs.contains i) Fin (i :: r) f w := pa_g [(t, v0), (t2, v1)] ho hc ⟨hs, hs2, trivial⟩ hk hr h
theorem bC (t : Nat) {x : Operand} {d : Nat} {pos : String} {aft : Array Edge} {v v0 : Value} (ho : l[i]? = some ⟨some d, .move x, ty, pos, aft, none⟩) (hc : cs.contains i = false) (hs : f.get t = some v0) (hk : slotsOk l p i [(t, v0)] = true)
   (hx : Fr.ev [(t, v0)] x = some v) (h : PW P n l p T (fun i => cs.contains i) Fin r ((d, v) :: f) w) : PW P n l p T (fun i => cs.contains i) Fin (i :: r) f w := aq t ho hc hs hk (fun _ _ => av hx) h
theorem bb (t t2 : Nat) {op : Op} {d : Nat} {pos : String} {aft : Array Edge} {v v0 v1 : Value} (ho : l[i]? = some ⟨some d, op, ty, pos, aft, none⟩) (hc : cs.contains i = false) (hs : f.get t = some v0) (hs2 : f.get t2 = some v1) (hk : slotsOk l p i [(t, v0), (t2, v1)] = true)
   (hr : ∀ w', Keep T w w' → Gives P n [(t, v0), (t2, v1)] w' op ty v w') (h : PW P n l p T (fun i => cs.contains i) Fin r ((d, v) :: f) w) : PW P n l p T (fun i => cs.contains i) Fin (i :: r) f w := pw_g [(t, v0), (t2, v1)] ho hc ⟨hs, hs2, trivial⟩ hk hr h
end
end Go.Eng
namespace Go.Eng
open Go Go.IntWalk
section
variable {P : Program} {n : NN} {f : Fr} {w : World} {ty : TypeId} {fin : Exit → Act → World → Prop} {k : List KI}
section
variable {l : List Oper} {p s0 i : Nat} {O : Nat → Prop} {T cs r : List Nat} {Fin : Fr → World → Prop}
end
end
end Go.Eng
namespace Go.Eng
open Go Go.IntWalk
section
variable {P : Program} {fin : Exit → Act → World → Prop} {n : NN} {k : List KI} {f : Fr} {w : World} {ty : TypeId}
theorem grdT {ops : Array Oper} {j d : Nat} {oj : Oper} {b want : Bool} (hj : ops[j]? = some oj) (hd : oj.dst = some d) (hf : f.get d = some (.bool b)) (hb : b = want) : Grd n ops f j want true := aa hj hd hf (by subst hb; cases b <;> rfl)
section
variable {l : List Oper} {p s0 i : Nat} {O : Nat → Prop} {T cs r : List Nat} {Fin : Fr → World → Prop}
theorem eS (f1 : Fr) {op : Op} {d : Nat} {pos : String} {aft : Array Edge} {j : Nat} {want : Bool} {v : Value} (ho : l[i]? = some ⟨some d, op, ty, pos, aft, some (j, want)⟩) (hc : cs.contains i = false) (hs : Fr.sub f1 f) (hk : slotsOk l p i f1 = true)
   (hG : Grd n l.toArray f1 j want true) (hr : ∀ w', Keep T w w' → Gives P n f1 w' op ty v w') (h : PA P n l p T O (fun i => cs.contains i) Fin r ((d, v) :: f) w) : PA P n l p T O (fun i => cs.contains i) Fin (i :: r) f w := by
 unfold PA
 refine ⟨_, f1, ho, hs, hk, .inr ⟨hc, v, fun w' hw a ha K Q hK => ?_, by rw [gn ho]; exact h⟩⟩
 have hwt : Region.wanted ⟨some d, op, ty, pos, aft, some (j, want)⟩ (yielded l.toArray a.tmps) = true := hG a ha
 rw [hwt]
 refine ⟨fun _ => ?_, fun hcf => by cases hcf⟩
 unfold Oper.wp
 rw [hr w' hw a ha]
 exact hK _ _ ⟨rfl, rfl⟩
end
theorem iZ {x y z : Operand} {b : Bool} {v : Value} (hx : f.ev x = some (.bool b)) (hb : b = true) (hy : f.ev y = some v) : Gives P n f w (.pick x y z) ty v w := by
 subst hb
 intro a ha dst pos aft g
 simp [execOp, ha.ev hx, ha.ev hy, asBool]
theorem g_pickF {x y z : Operand} {b : Bool} {v : Value} (hx : f.ev x = some (.bool b)) (hb : b = false) (hz : f.ev z = some v) : Gives P n f w (.pick x y z) ty v w := by
 subst hb
 intro a ha dst pos aft g
 simp [execOp, ha.ev hx, ha.ev hz, asBool]
theorem Rd.cblk {w : World} {s m : Nat} {v : Value} {cs : List Value} (h : Rd w s v m cs) : Eng.cblk v = vblk v := by
 obtain ⟨A, c, rfl, _⟩ := h
 cases A <;> rfl
theorem bG {x y : Operand} {t e : TypeId} {m : Nat} {zs : List Value} {s b : Nat} {blk o : Nat} (o' : Nat) {kd : IntKind} {i : Int} (ht : P.underlying t = some (.array m e)) (he : Ty P e zs s b)
   (hx : f.ev x = some (.pointer (some ⟨blk, o, none⟩))) (hy : f.ev y = some (.int kd i)) (h : 0 ≤ i ∧ i < m) (ho : o + i.toNat * s = o') :
   Gives P n f w (.indexAddr t x y) ty (.pointer (some ⟨blk, o', none⟩)) w := by subst ho; exact g_ixa ht he hx hy h
theorem aj {x : Operand} {T : TypeId} {fs : Array Field} {i : Nat} {fd : Field} {b o : Nat} (o' : Nat) {zs : List Value} {s by_ : Nat} (hT : P.underlying T = some (.struct fs)) (hf : fs[i]? = some fd) (hs : Ty P fd.type zs s by_) (h0 : s ≠ 0)
   (hx : f.ev x = some (.pointer (some ⟨b, o, none⟩))) (ho : o + fd.offset = o') : Gives P n f w (.fieldAddr T x i) ty (.pointer (some ⟨b, o', none⟩)) w := by subst ho; exact ay hT hf hs h0 hx
theorem lW {t : TypeId} {x y : Operand} {b o m : Nat} {T : TypeId} {zs : List Value} {by_ : Nat} {kd : IntKind} {W : Nat → Int} {v : Int} (ht : Ty P t zs 1 by_) (hx : f.ev x = some (.pointer (some ⟨b, o, none⟩))) (hy : f.ev y = some (.int kd v))
   (hb : Bk w b T (iv kd m W)) (h : o < m) :
   Does P n f w (.store t x y) ty (fun _ w' => Bk w' b T (iv kd m (upd W o v)) ∧ Keep [b] w w' ∧ w'.heap.size = w.heap.size) :=
 (bQ ht hx hy rfl hb (by rw [fN]; exact Nat.ble_eq_true_of_le h)).mono fun _ w' ⟨h1, h2, h3⟩ => ⟨by rwa [iv_set] at h1, h2, h3⟩
theorem g_slv {x : Operand} {t e : TypeId} {lo hi : Option Operand} {zs : List Value} {s b m c : Nat} {A : Option Addr} {l h : Int} (ht : P.underlying t = some (.slice e)) (he : Ty P e zs s b)
   (hx : f.ev x = some (.slice A m c)) (h2 : c ≤ maxLen) (h1 : m ≤ c)
   (hlo : (lo = none ∧ l = 0) ∨ ∃ o k, lo = some o ∧ f.ev o = some (.int k l)) (hhi : (hi = none ∧ h = m) ∨ ∃ o k, hi = some o ∧ f.ev o = some (.int k h)) (hb : 0 ≤ l ∧ l ≤ h ∧ h ≤ c) :
   Gives P n f w (.slice t x lo hi none) ty (cut (.slice A m c) l.toNat h.toNat s) w := by
 intro a ha dst pos aft g
 have ht' : P.underlying t = some (.slice (P.elem t)) := by unfold Program.elem; rw [ht]
 have hel : P.elem t = e := by unfold Program.elem; rw [ht]
 have hbb : (Instr.sliceBounds true m c (lo.map a.eval) (hi.map a.eval) none).run P w = .ok (l.toNat, h.toNat, c) w := by
   have e2 : (h.toNat : Int) = h := Int.toNat_of_nonneg (by omega)
   rcases hlo with ⟨rfl, rfl⟩ | ⟨o, kk, rfl, ho⟩ <;> rcases hhi with ⟨rfl, rfl⟩ | ⟨o', kk', rfl, ho'⟩
   · simp [Instr.sliceBounds]
   · simp [Instr.sliceBounds, ha.ev ho', run_sliceBound w kk' h c _ (by omega) (by omega)]
   · simp [Instr.sliceBounds, ha.ev ho, run_sliceBound w kk l m _ (by omega) (by omega)]
   · simp [Instr.sliceBounds, ha.ev ho, ha.ev ho', run_sliceBound w kk' h c _ (by omega) (by omega), run_sliceBound w kk l h.toNat _ (by omega) (by omega)]
 simp only [execOp, ha.ev hx, Sem.run_bind, Option.map_none, run_sliceAt_slice w t _ _ _ _ ht', run_slice_any w t A m c ht', hbb, Result.andThen_ok, hel, he.sizeOf, sliced, Sem.run_pure, Eng.cut]
end
end Go.Eng
namespace Go.Eng
open Go Go.IntWalk
section
variable {P : Program} {n : NN}
end
section
variable {P : Program} {n : NN} {fin : Exit → Act → World → Prop} {k : List KI} {f : Fr} {w : World}
def FinG (P : Program) (n : NN) (l : List Oper) (p s0 : Nat) (cs : List Nat) (fc : Fr) (G : Fr → World → Prop) : List (Nat × TypeId × List Value) → List Nat → Fr → World → Prop
 | [], _, f, w => G f w
 | q :: r, seen, f, w => ∀ b, s0 ≤ b → b < w.heap.size → Bk w b q.2.1 q.2.2 → (∀ x, x ∈ seen → x ≠ b) → (∀ j, j ∈ cs → hasDst l j = true → ∀ v, fc.get (dstOf l j) = some v → ∀ x, x ∈ cblk v → x ≠ b) →
   FinG P n l p s0 cs fc G r (b :: seen) ((dstOf l q.1, .pointer (some ⟨b, 0, none⟩)) :: f) w
theorem FinG.use {l : List Oper} {p s0 : Nat} {cs : List Nat} {fc : Fr} {G : Fr → World → Prop} {bs : Nat → Nat} : ∀ {fl : List (Nat × TypeId × List Value)} {seen : List Nat} {f : Fr} {w : World}, FinG P n l p s0 cs fc G fl seen f w →
   (∀ q, q ∈ fl → s0 ≤ bs q.1 ∧ bs q.1 < w.heap.size ∧ Bk w (bs q.1) q.2.1 q.2.2 ∧ (∀ j, j ∈ cs → hasDst l j = true → ∀ v, fc.get (dstOf l j) = some v → ∀ x, x ∈ cblk v → x ≠ bs q.1) ∧ (∀ x, x ∈ seen → x ≠ bs q.1)) →
   (fl.map (·.1)).Nodup → (∀ q q', q ∈ fl → q' ∈ fl → q.1 ≠ q'.1 → bs q.1 ≠ bs q'.1) → G (flFr l bs fl f) w
 | [], seen, f, w, h, _, _, _ => h
 | q :: r, seen, f, w, h, hq, hnd, hd => by
   obtain ⟨h1, h2, h3, h4, h5⟩ := hq q (by simp)
   have hnd' := List.nodup_cons.1 hnd
   refine FinG.use (fl := r) (f := (dstOf l q.1, .pointer (some ⟨bs q.1, 0, none⟩)) :: f) (h (bs q.1) h1 h2 h3 h5 h4) (fun q' hq' => ?_) hnd'.2 (fun a b ha hb => hd a b (by simp [ha]) (by simp [hb]))
   obtain ⟨g1, g2, g3, g4, g5⟩ := hq q' (by simp [hq'])
   refine ⟨g1, g2, g3, g4, fun x hx => ?_⟩
   rcases List.mem_cons.1 hx with rfl | hx
   · exact hd q q' (by simp) (by simp [hq']) (fun e => hnd'.1 (List.mem_map.2 ⟨q', hq', e.symm⟩))
   · exact g5 x hx
end
end Go.Eng
namespace Go.Eng
open Go Go.IntWalk
theorem fi (v : BitVec 64) : IntKind.u64.wrap (v.toNat : Int) = v.toNat := IntWalk.u64_in _ (by have := v.isLt; omega)
theorem cx (v : BitVec 64) : BitVec.ofInt 64 (v.toNat : Int) = v := by rw [BitVec.ofInt_natCast, BitVec.ofNat_toNat]; simp
theorem and_u64 (x y : Int) : bits .and .u64 x y = ((BitVec.ofInt 64 x &&& BitVec.ofInt 64 y).toNat : Int) := fi _
theorem or_u64 (x y : Int) : bits .or .u64 x y = ((BitVec.ofInt 64 x ||| BitVec.ofInt 64 y).toNat : Int) := fi _
theorem ja (x y : Int) : bits .xor .u64 x y = ((BitVec.ofInt 64 x ^^^ BitVec.ofInt 64 y).toNat : Int) := fi _
end Go.Eng
namespace Go.Sha
open Go Go.Eng Go.Byt
abbrev T3 := Nat × Nat × Nat
structure Pl (n : Nat) where
  R : Nat
  l0 : T3
  l1 : T3
  u0 : T3
  u1 : T3
structure S8 (n : Nat) where
  a : BitVec n
  b : BitVec n
  c : BitVec n
  d : BitVec n
  e : BitVec n
  f : BitVec n
  g : BitVec n
  h : BitVec n
section
variable {n : Nat}
def tn (x : BitVec n) (r : Nat) : BitVec n := (x >>> r) ||| (x <<< (n - r))
def lo (l : T3) (x : BitVec n) : BitVec n := tn x l.1 ^^^ tn x l.2.1 ^^^ (x >>> l.2.2)
def hi (l : T3) (x : BitVec n) : BitVec n := tn x l.1 ^^^ tn x l.2.1 ^^^ tn x l.2.2
def wrdF (x : BitVec n) (b : List UInt8) : BitVec n := b.foldl (fun a c => (a <<< 8) ||| BitVec.ofNat n c.toNat) x
def wrd (n : Nat) (b : List UInt8) (i : Nat) : BitVec n := wrdF 0 ((b.drop (n / 8 * i)).take (n / 8))
def nxt (P : Pl n) (w : List (BitVec n)) (t : Nat) : BitVec n := lo P.l1 (w.getD (t - 2) 0) + w.getD (t - 7) 0 + lo P.l0 (w.getD (t - 15) 0) + w.getD (t - 16) 0
def sch (P : Pl n) (b : List UInt8) : Nat → List (BitVec n)
 | 0 => (List.range 16).map (wrd n b)
 | k + 1 => sch P b k ++ [nxt P (sch P b k) (16 + k)]
theorem ed (P : Pl n) (b : List UInt8) : ∀ k, (sch P b k).length = 16 + k
 | 0 => by simp [sch]
 | k + 1 => by rw [sch, List.length_append, ed P b k]; rfl
def cst (n : Nat) (K : List Nat) (t : Nat) : BitVec n := BitVec.ofNat n (K.getD t 0 / 2 ^ (64 - n))
def rnd (P : Pl n) (k w : BitVec n) (x : S8 n) : S8 n :=
 let t1 := x.h + hi P.u1 x.e + ((x.e &&& x.f) ^^^ (~~~x.e &&& x.g)) + k + w
 let t2 := hi P.u0 x.a + ((x.a &&& x.b) ^^^ (x.a &&& x.c) ^^^ (x.b &&& x.c))
 ⟨t1 + t2, x.a, x.b, x.c, x.d + t1, x.e, x.f, x.g⟩
def rnds (P : Pl n) (K : List Nat) (w : List (BitVec n)) (s : S8 n) : Nat → S8 n
 | 0 => s
 | t + 1 => rnd P (cst n K t) (w.getD t 0) (rnds P K w s t)
def plus8 (x y : S8 n) : S8 n := ⟨x.a + y.a, x.b + y.b, x.c + y.c, x.d + y.d, x.e + y.e, x.f + y.f, x.g + y.g, x.h + y.h⟩
def blk (P : Pl n) (K : List Nat) (b : List UInt8) (s : S8 n) : S8 n := plus8 s (rnds P K (sch P b (P.R - 16)) s P.R)
def zs (n len : Nat) : Nat := (4 * n - n / 4 - 1 - len % (2 * n)) % (2 * n)
def pad (n : Nat) (b : List UInt8) : List UInt8 := b ++ 128 :: (List.replicate (zs n b.length + (n / 4 - 8)) 0 ++ be (8 * b.length) 8)
def blks (P : Pl n) (K : List Nat) : Nat → List UInt8 → S8 n → S8 n
 | 0, _, s => s
 | m + 1, b, s => blks P K m (b.drop (2 * n)) (blk P K (b.take (2 * n)) s)
def out8 (s : S8 n) : List UInt8 := [s.a, s.b, s.c, s.d, s.e, s.f, s.g, s.h].flatMap fun x => be x.toNat (n / 8)
def st8 (n : Nat) (H : List Nat) : S8 n := ⟨cst n H 0, cst n H 1, cst n H 2, cst n H 3, cst n H 4, cst n H 5, cst n H 6, cst n H 7⟩
def sum (P : Pl n) (K H : List Nat) (b : List UInt8) : List UInt8 := out8 (blks P K ((pad n b).length / (2 * n)) (pad n b) (st8 n H))
end
def bf : Pl 32 := ⟨64, (7, 18, 3), (17, 19, 10), (2, 13, 22), (6, 11, 25)⟩
theorem gJ {n len : Nat} (h8 : 8 ∣ n) (h0 : 32 ≤ n) : zs n len < 2 * n ∧ (len + 1 + zs n len) % (2 * n) = 2 * n - n / 4 := by
 obtain ⟨q, rfl⟩ := h8
 unfold zs
 have e : 8 * q / 4 = 2 * q := by omega
 rw [e]
 have hr : len % (2 * (8 * q)) < 2 * (8 * q) := Nat.mod_lt _ (by omega)
 obtain ⟨r, hr'⟩ : ∃ r, r = len % (2 * (8 * q)) := ⟨_, rfl⟩
 have hd := Nat.div_add_mod len (2 * (8 * q))
 rw [← hr'] at hr hd ⊢
 refine ⟨Nat.mod_lt _ (by omega), ?_⟩
 by_cases hc : 4 * (8 * q) - 2 * q - 1 - r < 2 * (8 * q)
 · rw [Nat.mod_eq_of_lt hc, ← hd, show 2 * (8 * q) * (len / (2 * (8 * q))) + r + 1 + (4 * (8 * q) - 2 * q - 1 - r) = 2 * (8 * q) - 2 * q + 2 * (8 * q) * (len / (2 * (8 * q)) + 1) from by rw [Nat.mul_add]; omega, Nat.add_mul_mod_self_left, Nat.mod_eq_of_lt (by omega)]
 · have e2 : (4 * (8 * q) - 2 * q - 1 - r) % (2 * (8 * q)) = 2 * (8 * q) - 2 * q - 1 - r := by
     rw [show 4 * (8 * q) - 2 * q - 1 - r = 2 * (8 * q) - 2 * q - 1 - r + 2 * (8 * q) * 1 from by omega, Nat.add_mul_mod_self_left, Nat.mod_eq_of_lt (by omega)]
   rw [e2, ← hd, show 2 * (8 * q) * (len / (2 * (8 * q))) + r + 1 + (2 * (8 * q) - 2 * q - 1 - r) = 2 * (8 * q) - 2 * q + 2 * (8 * q) * (len / (2 * (8 * q))) from by omega, Nat.add_mul_mod_self_left, Nat.mod_eq_of_lt (by omega)]
theorem ge {n : Nat} (b : List UInt8) : (pad n b).length = b.length + 1 + zs n b.length + (n / 4 - 8) + 8 := by
 unfold pad; rw [List.length_append, List.length_cons, List.length_append, List.length_replicate, bx]; omega
theorem iy {n : Nat} (s : S8 n) : (out8 s).length = 8 * (n / 8) := by
 unfold out8; simp only [List.flatMap_cons, List.flatMap_nil, List.length_append, bx, List.length_nil]; omega
theorem xor64 (x y : BitVec 64) : bits .xor .u64 (x.toNat : Int) (y.toNat : Int) = ((x ^^^ y).toNat : Int) := by rw [ja, cx, cx]
theorem or64 (x y : BitVec 64) : bits .or .u64 (x.toNat : Int) (y.toNat : Int) = ((x ||| y).toNat : Int) := by rw [or_u64, cx, cx]
theorem and64 (x y : BitVec 64) : bits .and .u64 (x.toNat : Int) (y.toNat : Int) = ((x &&& y).toNat : Int) := by rw [and_u64, cx, cx]
theorem eW (x : Int) : IntKind.u64.wrap x = x % 18446744073709551616 := fS (by decide) x
theorem add64 (x y : BitVec 64) : IntKind.u64.wrap ((x.toNat : Int) + (y.toNat : Int)) = ((x + y).toNat : Int) := by
 rw [eW, BitVec.toNat_add]; omega
theorem shr64 (x : BitVec 64) (r : Nat) : (x.toNat : Int) / 2 ^ r = ((x >>> r).toNat : Int) := by
 rw [BitVec.toNat_ushiftRight, Nat.shiftRight_eq_div_pow]; exact_mod_cast rfl
theorem shl64 (x : BitVec 64) (r : Nat) : IntKind.u64.wrap ((x.toNat : Int) * 2 ^ r) = ((x <<< r).toNat : Int) := by
 rw [eW, BitVec.toNat_shiftLeft, Nat.shiftLeft_eq, Int.natCast_emod, Int.natCast_mul, Int.natCast_pow]; rfl
theorem com64 (x : BitVec 64) : bits .xor .u64 18446744073709551615 (x.toNat : Int) = ((~~~x).toNat : Int) := by
 rw [ja, cx]
 have e : BitVec.ofInt 64 18446744073709551615 = BitVec.allOnes 64 := by decide
 rw [e, BitVec.xor_comm, BitVec.xor_allOnes]
theorem byt64 (c : UInt8) : ((c.toNat : Nat) : Int) = ((BitVec.ofNat 64 c.toNat).toNat : Int) := by
 rw [BitVec.toNat_ofNat, Nat.mod_eq_of_lt (by have := c.toNat_lt; omega)]
section
variable {n : Nat}
def wN (l : List (BitVec n)) : Nat → Int := fun j => ((l.getD j 0).toNat : Int)
theorem wN_nil : wN ([] : List (BitVec n)) = fun _ => 0 := by funext j; simp [wN]
theorem jc (l : List (BitVec n)) : wN (l ++ [0]) = wN l := by
 funext j
 unfold wN
 rcases Nat.lt_trichotomy j l.length with h | h | h
 · rw [List.getD_eq_getElem?_getD, List.getD_eq_getElem?_getD, List.getElem?_append_left h]
 · subst h; simp
 · rw [List.getD_eq_getElem?_getD, List.getD_eq_getElem?_getD, List.getElem?_eq_none (by simp; omega), List.getElem?_eq_none (by omega)]
theorem jd (l : List (BitVec n)) (x : BitVec n) {i : Nat} (h : l.length = i) : wN (l ++ [x]) i = (x.toNat : Int) := by
 subst h; simp [wN]
theorem fy (l : List (BitVec n)) (x y : BitVec n) {i : Nat} (h : l.length = i) : upd (wN (l ++ [x])) i (y.toNat : Int) = wN (l ++ [y]) := by
 subst h
 funext j
 by_cases hne : j = l.length
 · subst hne; rw [ia, jd l y rfl]
 · rw [fh _ _ hne]
   unfold wN
   simp only [List.getD_eq_getElem?_getD]
   rcases Nat.lt_or_gt_of_ne hne with h | h
   · rw [List.getElem?_append_left h, List.getElem?_append_left h]
   · rw [List.getElem?_eq_none (by simp; omega), List.getElem?_eq_none (by simp; omega)]
theorem jL (l : List (BitVec n)) (y : BitVec n) {i : Nat} (h : l.length = i) : upd (wN l) i (y.toNat : Int) = wN (l ++ [y]) := by
 rw [← jc l]; exact fy l 0 y h
theorem hD {x : BitVec n} {b : List UInt8} {k : Nat} {c : UInt8} (h : b[k]? = some c) : wrdF x (b.take (k + 1)) = (wrdF x (b.take k) <<< 8) ||| BitVec.ofNat n c.toNat := by
 rw [bl h]; unfold wrdF; rw [List.foldl_append]; rfl
theorem hC (b : List UInt8) (i : Nat) : (List.range (i + 1)).map (wrd n b) = (List.range i).map (wrd n b) ++ [wrd n b i] := by rw [List.range_succ, List.map_append]; rfl
def de (s : S8 n) : List (BitVec n) := [s.a, s.b, s.c, s.d, s.e, s.f, s.g, s.h]
end
def KB (K : List Nat) : List (BitVec 64) := K.map (BitVec.ofNat 64)
def Kl : List Nat := [4794697086780616226, 8158064640168781261, 13096744586834688815, 16840607885511220156, 4131703408338449720, 6480981068601479193, 10538285296894168987, 12329834152419229976, 15566598209576043074, 1334009975649890238, 2608012711638119052, 6128411473006802146, 8268148722764581231, 9286055187155687089, 11230858885718282805, 13951009754708518548, 16472876342353939154, 17275323862435702243, 1135362057144423861, 2597628984639134821, 3308224258029322869, 5365058923640841347, 6679025012923562964, 8573033837759648693, 10970295158949994411, 12119686244451234320, 12683024718118986047, 13788192230050041572, 14330467153632333762, 15395433587784984357, 489312712824947311, 1452737877330783856, 2861767655752347644, 3322285676063803686, 5560940570517711597, 5996557281743188959, 7280758554555802590, 8532644243296465576, 9350256976987008742, 10552545826968843579, 11727347734174303076, 12113106623233404929, 14000437183269869457, 14369950271660146224, 15101387698204529176, 15463397548674623760, 17586052441742319658, 1182934255886127544, 1847814050463011016, 2177327727835720531, 2830643537854262169, 3796741975233480872, 4115178125766777443, 5681478168544905931, 6601373596472566643, 7507060721942968483, 8399075790359081724, 8693463985226723168, 9568029438360202098, 10144078919501101548, 10430055236837252648, 11840083180663258601, 13761210420658862357, 14299343276471374635, 14566680578165727644, 15097957966210449927, 16922976911328602910, 17689382322260857208, 500013540394364858, 748580250866718886, 1242879168328830382, 1977374033974150939, 2944078676154940804, 3659926193048069267, 4368137639120453308, 4836135668995329356, 5532061633213252278, 6448918945643986474, 6902733635092675308, 7801388544844847127]
def Hl : List Nat := [7640891576956012808, 13503953896175478587, 4354685564936845355, 11912009170470909681, 5840696475078001361, 11170449401992604703, 2270897969802886507, 6620516959819538809]
end Go.Sha
namespace Go.Sha
open Go Go.Eng Go.Byt
theorem zstep (xs : List UInt8) (j : Nat) : xs ++ 128 :: List.replicate (j + 1) (0 : UInt8) = (xs ++ 128 :: List.replicate j 0) ++ [0] := by simp [List.replicate_succ']
end Go.Sha
namespace Go.Eng
open Go Go.IntWalk Go.Sha
section
variable {P : Program} {n : NN} {f : Fr} {w : World} {ty : TypeId}
theorem aw {op : Op} {v v' : Value} (h : Gives P n f w op ty v w) (e : v = v') : Gives P n f w op ty v' w := by subst e; exact h
theorem fP {t u : TypeId} {x y : Operand} {a b : BitVec 64} (hx : f.ev x = some (.int .u64 (a.toNat : Int))) (hy : f.ev y = some (.int .u64 (b.toNat : Int))) : Gives P n f w (.binOp .xor t x y u) ty (.int .u64 ((a ^^^ b).toNat : Int)) w :=
 aw (iz hx hy) (by rw [xor64])
theorem gb_or {t u : TypeId} {x y : Operand} {a b : BitVec 64} (hx : f.ev x = some (.int .u64 (a.toNat : Int))) (hy : f.ev y = some (.int .u64 (b.toNat : Int))) : Gives P n f w (.binOp .or t x y u) ty (.int .u64 ((a ||| b).toNat : Int)) w :=
 aw (j4 hx hy) (by rw [or64])
theorem fq {t u : TypeId} {x y : Operand} {a b : BitVec 64} (hx : f.ev x = some (.int .u64 (a.toNat : Int))) (hy : f.ev y = some (.int .u64 (b.toNat : Int))) : Gives P n f w (.binOp .and t x y u) ty (.int .u64 ((a &&& b).toNat : Int)) w :=
 aw (ei hx hy) (by rw [and64])
theorem ct {t u : TypeId} {x y : Operand} {a b : BitVec 64} (hx : f.ev x = some (.int .u64 (a.toNat : Int))) (hy : f.ev y = some (.int .u64 (b.toNat : Int))) : Gives P n f w (.binOp .add t x y u) ty (.int .u64 ((a + b).toNat : Int)) w :=
 aw (bk hx hy) (by rw [add64])
theorem dm {k' : IntKind} {t u : TypeId} {x y : Operand} {a : BitVec 64} {i : Int} (r : Nat) (hx : f.ev x = some (.int .u64 (a.toNat : Int))) (hy : f.ev y = some (.int k' i)) (hi : i = (r : Int)) (h : r ≤ 64) : Gives P n f w (.binOp .shr t x y u) ty (.int .u64 ((a >>> r).toNat : Int)) w := by
 subst hi
 exact aw (ez hx hy ⟨by omega, by simp only [IntKind.bits]; omega⟩) (by rw [Int.toNat_natCast, shr64])
theorem lU {k' : IntKind} {t u : TypeId} {x y : Operand} {a : BitVec 64} {i : Int} (r : Nat) (hx : f.ev x = some (.int .u64 (a.toNat : Int))) (hy : f.ev y = some (.int k' i)) (hi : i = (r : Int)) (h : r ≤ 64) : Gives P n f w (.binOp .shl t x y u) ty (.int .u64 ((a <<< r).toNat : Int)) w := by
 subst hi
 exact aw (cz hx hy ⟨by omega, by simp only [IntKind.bits]; omega⟩) (by rw [Int.toNat_natCast, shl64])
theorem gb_com {t : TypeId} {x : Operand} {a : BitVec 64} (hx : f.ev x = some (.int .u64 (a.toNat : Int))) : Gives P n f w (.unOp .xor t x) ty (.int .u64 ((~~~a).toNat : Int)) w := by
 intro a' ha dst pos aft g
 have h : bits .xor .u64 IntKind.u64.max (a.toNat : Int) = ((~~~a).toNat : Int) := com64 a
 have h2 : (Op.unary .xor (.int .u64 (a.toNat : Int))).run P w = .ok (.int .u64 ((~~~a).toNat : Int)) w := by
   rw [← h]; rfl
 simp [execOp, ha.ev hx, h2]
theorem gb_cv {s t : TypeId} {x : Operand} {i : Int} (c : UInt8) (hs : (P.underlying s).isSome = true) (ht : P.underlying t = some (.int .u64)) (hx : f.ev x = some (.int .u8 i)) (hi : i = (c.toNat : Int)) : Gives P n f w (.convert s t x) ty (.int .u64 ((BitVec.ofNat 64 c.toNat).toNat : Int)) w := by
 subst hi
 refine aw (dY hs ht hx) ?_
 rw [← byt64, eW, Int.emod_eq_of_lt (by omega) (by have := c.toNat_lt; omega)]
theorem g_sl3 {x y z : Operand} {t e : TypeId} {zs : List Value} {s b m c : Nat} {A : Option Addr} {k k' : IntKind} {h q : Int} (ht : P.underlying t = some (.slice e)) (he : Ty P e zs s b)
   (hx : f.ev x = some (.slice A m c)) (hy : f.ev y = some (.int k h)) (hz : f.ev z = some (.int k' q)) (hb : 0 ≤ h ∧ h ≤ q ∧ q ≤ c) :
   Gives P n f w (.slice t x none (some y) (some z)) ty (.slice (if q.toNat = 0 then A else A.map (·.add (0 * s))) h.toNat q.toNat) w := by
 intro a ha dst pos aft g
 have ht' : P.underlying t = some (.slice (P.elem t)) := by unfold Program.elem; rw [ht]
 have hel : P.elem t = e := by unfold Program.elem; rw [ht]
 have hr := run_slice_hm (P := P) w t A m c ht' k k' h q (by omega) (by omega) (by omega)
 simp only [execOp, ha.ev hx, ha.ev hy, ha.ev hz, Sem.run_bind, Option.map_none, Option.map_some, run_sliceAt_slice w t _ _ _ _ ht', hr, Result.andThen_ok, hel, he.sizeOf, sliced, Sem.run_pure, Nat.sub_zero]
theorem g_sla {x : Operand} {t e : TypeId} {lo hi : Option Operand} {zs : List Value} {s b m blk : Nat} {l h : Int} (ht : P.underlying t = some (.array m e)) (he : Ty P e zs s b)
   (hx : f.ev x = some (.pointer (some ⟨blk, 0, none⟩)))
   (hlo : (lo = none ∧ l = 0) ∨ ∃ o k, lo = some o ∧ f.ev o = some (.int k l)) (hhi : (hi = none ∧ h = m) ∨ ∃ o k, hi = some o ∧ f.ev o = some (.int k h)) (hb : 0 ≤ l ∧ l ≤ h ∧ h ≤ m) (hlm : l < m) :
   Gives P n f w (.slice t x lo hi none) ty (.slice (some ⟨blk, l.toNat * s, none⟩) (h.toNat - l.toNat) (m - l.toNat)) w := by
 intro a ha dst pos aft g
 have hel : P.elem t = e := by unfold Program.elem; rw [ht]
 have hal : P.arrayLen t = m := by unfold Program.arrayLen; rw [ht]
 have ht' : P.underlying t = some (.array (P.arrayLen t) (P.elem t)) := by rw [hel, hal]; exact ht
 have hne : ¬ (m = l.toNat) := by omega
 have e0 : ∀ o, (⟨blk, 0, none⟩ : Addr).add o = ⟨blk, o, none⟩ := fun o => by rw [Addr.add_lit, Nat.zero_add]
 rcases hlo with ⟨rfl, rfl⟩ | ⟨o, kk, rfl, ho⟩ <;> rcases hhi with ⟨rfl, rfl⟩ | ⟨o', kk', rfl, ho'⟩
 · have hr := run_sliceAt_array_all (P := P) w t ⟨blk, 0, none⟩ ht'
   simp only [execOp, ha.ev hx, Sem.run_bind, Option.map_none, Option.map_some, hr, Result.andThen_ok, hel, hal, he.sizeOf, slicedAt, Sem.run_pure, e0]
   have hm0 : ¬ (m = 0) := by omega
   simp [hm0]
 · have hr := run_sliceAt_array_h (P := P) w t ⟨blk, 0, none⟩ ht' kk' h (by omega) (by omega)
   simp only [execOp, ha.ev hx, ha.ev ho', Sem.run_bind, Option.map_none, Option.map_some, hr, Result.andThen_ok, hel, hal, he.sizeOf, slicedAt, Sem.run_pure, e0]
   have hm0 : ¬ (m = 0) := by omega
   simp [hm0]
 · have hr := run_sliceAt_array_l (P := P) w t ⟨blk, 0, none⟩ ht' kk l (by omega) (by omega)
   simp only [execOp, ha.ev hx, ha.ev ho, Sem.run_bind, Option.map_none, Option.map_some, hr, Result.andThen_ok, hel, hal, he.sizeOf, slicedAt, Sem.run_pure, e0, if_neg hne, Int.toNat_natCast]
 · have hr := run_sliceAt_array_lh (P := P) w t ⟨blk, 0, none⟩ ht' kk kk' l h (by omega) (by omega) (by omega)
   simp only [execOp, ha.ev hx, ha.ev ho, ha.ev ho', Sem.run_bind, Option.map_none, Option.map_some, hr, Result.andThen_ok, hel, hal, he.sizeOf, slicedAt, Sem.run_pure, e0, if_neg hne]
theorem d_cpr {t u e : TypeId} {x y : Operand} {blk o o' m m' c c' k by_ : Nat} {T : TypeId} {cs zs : List Value} (ht : P.underlying t = some (.slice e)) (he : Ty P e zs 1 by_)
   (hx : f.ev x = some (.slice (some ⟨blk, o, none⟩) m c)) (hy : f.ev y = some (.slice (some ⟨blk, o', none⟩) m' c')) (hb : Bk w blk T cs) (h1 : ∀ v ∈ cs, v.oneCell' = true) (hk : k = min m' m) (hfo : o + k ≤ cs.length) (hfo' : o' + k ≤ cs.length) :
   Does P n f w (.call { callee := .builtin .copy, args := #[x, y], argTypes := #[t, u] }) ty
     (fun r w' => r = .int .i64 (k : Int) ∧ Bk w' blk T (cs.take o ++ (cs.drop o').take k ++ cs.drop (o + k)) ∧ Keep [blk] w w' ∧ w'.heap.size = w.heap.size) := by
 intro a ha dst pos aft g K Q hK
 obtain ⟨ti, z, hi, hz, hzc, hsz, hby⟩ := he.parts
 have hsz' : (P.info? e).map (·.size) = some 1 := by rw [hi]; simp [hsz]
 have hlen : ((cs.drop o').take k).length = k := by rw [List.length_take, List.length_drop]; omega
 have hrun := run_copy_row (P := P) w t u ty e blk o m c ⟨blk, o', none⟩ m' c' cs.toArray T ((cs.drop o').take k) ht hsz' hb (by rw [hlen]; exact hk) (fun j v hj => by
     rw [List.getElem?_take] at hj
     split at hj
     · rw [List.getElem?_drop] at hj
       rw [Addr.add_lit, hb.cell]; exact hj
     · cases hj) (by rw [hlen, List.size_toArray]; exact hfo) (fun v hv => h1 v (List.mem_of_mem_drop (List.mem_of_mem_take hv)))
 have hr : (execOp a.eval ⟨dst, .call { callee := .builtin .copy, args := #[x, y], argTypes := #[t, u] }, ty, pos, aft, g⟩).run P w = .ok (.value (goInt k)) (w.setRow blk (cs.take o ++ (cs.drop o').take k ++ cs.drop (o + k)).toArray) := by
   rw [hlen] at hrun
   simp [execOp, resolve, invoke, builtin, ha.ev hx, ha.ev hy, hrun]
 unfold Oper.wp
 rw [hr]
 exact hK _ _ ⟨rfl, setRow_heap w blk _ _ T _ hb, dp _ _ _, eG _ _ _⟩
theorem lX {t e : TypeId} {x y : Operand} {lo : Nat} {v u : Value} {xs ys : List UInt8} (ht : P.underlying t = some (.slice e)) (he : Ty P e [.int .u8 0] 1 1)
   (hx : f.ev x = some v) (ho : RdB w v xs) (hc : vcap v = xs.length) (hy : f.ev y = some u) (hr : RdB w u ys) (hys : 0 < ys.length) (hb : xs.length + ys.length ≤ 140737488355328) (hl : lo ≤ w.heap.size) :
   Does P n f w (.call { callee := .builtin .append, args := #[x, y], argTypes := #[t, t] }) ty
     (fun v' w' => Own w' lo e 1 v' (xs.length + ys.length) (bv (xs ++ ys)) ∧ Keep [] w w' ∧ (∀ x, x ∈ vblk v' → w.heap.size ≤ x)) := by
 obtain ⟨A, c, rfl, h2, h3, h4, h5, h6⟩ := ho
 simp only [vcap] at hc
 subst hc
 cases A with
 | none =>
   have h0 := h5 rfl
   have hx0 : xs = [] := List.eq_nil_of_length_eq_zero h0
   subst hx0
   exact (bS (lo := lo) ht he hx (a9 w lo e 1) hy hr (by simpa using hb) hl).mono fun v' w' ⟨q1, q2, q3, _⟩ => ⟨q1, q2, fun x hx => (q3 x hx).elim (fun h => by cases h) id⟩
 | some a0 =>
   intro a ha dst pos aft g K Q hK
   obtain ⟨ti, z, hi, hz, hzc, hsz, hby⟩ := he.parts
   obtain ⟨A', c', rfl, k2, k3, k4, k5, k6⟩ := hr
   cases A' with
   | none => have := k5 rfl; omega
   | some a' =>
     have hzl : z.cells.size = 1 := by rw [← Array.length_toList, hzc]; rfl
     have hrun := run_append_grow (P := P) w t ty e ti z ht hi hz a0 xs.length xs.length (bv xs) (by rw [bL, hsz, Nat.mul_one]) (h6 a0 rfl) a' ys.length c' (bv ys) (by rw [bL, hsz, Nat.mul_one]) (k6 a' rfl) (by omega) (by omega) (f4 (by omega) (by rw [hby]; omega))
     have hr : (execOp a.eval ⟨dst, .call { callee := .builtin .append, args := #[x, y], argTypes := #[t, t] }, ty, pos, aft, g⟩).run P w = .ok (.value (.slice (some ⟨w.heap.size, 0, none⟩) (xs.length + ys.length) (grownCap w (xs.length + ys.length) xs.length e))) (w.drew.alloc (.cells ((bv xs).toArray ++ (bv ys).toArray ++ Builtin.zeroCells z.cells (grownCap w (xs.length + ys.length) xs.length e - (xs.length + ys.length))) e)) := by
       simp [execOp, resolve, invoke, builtin, ha.ev hx, ha.ev hy, hrun]
     unfold Oper.wp
     rw [hr]
     have hge := grownCap_ge w (xs.length + ys.length) xs.length e
     refine hK _ _ ⟨⟨by rw [bL, List.length_append, Nat.mul_one], .inr ⟨w.heap.size, _, _, rfl, hl, dx w.drew e _, hge, grownCap_le_maxLen w _ _ e (dw (by omega)), ?_, ?_⟩⟩, (bp w).trans (cN _ _), fun x hx => by simp only [vblk, List.mem_singleton] at hx; subst hx; exact Nat.le_refl _⟩
     · rw [Array.size_append, Array.size_append, List.size_toArray, List.size_toArray, bL, bL, size_zeroCells, hzl, Nat.mul_one, Nat.mul_one]; omega
     · rw [fw, Array.toList_append, Array.toList_append, List.take_append_of_le_length (by simp [bL])]
       simp only [Nat.mul_one]
       rw [List.take_of_length_le (by simp [bL])]
theorem rd_full {A : Option Addr} {c : Nat} {xs : List UInt8} (h : RdB w (.slice A xs.length c) xs) : RdB w (.slice (if ((xs.length : Int)).toNat = 0 then A else A.map (·.add (0 * 1))) ((xs.length : Int)).toNat ((xs.length : Int)).toNat) xs := by
 obtain ⟨A', c', hv, h2, h3, h4, h5, h6⟩ := h
 cases hv
 rw [Int.toNat_natCast]
 refine ⟨_, _, rfl, Nat.le_refl _, by omega, h4, ?_, ?_⟩
 · intro h
   split at h
   · assumption
   · cases A with
     | none => have := h5 rfl; omega
     | some a => cases h
 · intro a ha
   split at ha
   · exact h6 a ha
   · cases A with
     | none => cases ha
     | some a0 =>
       simp only [Option.map_some, Option.some.injEq, Nat.zero_mul] at ha
       subst ha
       have hr := h6 a0 rfl
       have := hr.drop 0
       rwa [List.drop_zero] at this
end
end Go.Eng
namespace Go.Eng
open Go Go.IntWalk Go.Sha
def wc (l : List (BitVec 64)) : List Value := l.map fun x => .int .u64 (x.toNat : Int)
theorem jw (l m : List (BitVec 64)) : wc (l ++ m) = wc l ++ wc m := by simp [wc]
theorem wc_one (l : List (BitVec 64)) : ∀ c ∈ wc l, c.oneCell' = true := by
 intro c hc
 simp only [wc, List.mem_map] at hc
 obtain ⟨x, _, rfl⟩ := hc; rfl
theorem wc_get {l : List (BitVec 64)} {i : Nat} (h : i < l.length) : (wc l)[i]? = some (.int .u64 ((l.getD i 0).toNat : Int)) := by
 simp only [wc, List.getElem?_map]
 rw [List.getD_eq_getElem?_getD, List.getElem?_eq_getElem h]; rfl
abbrev RdW (w : World) (v : Value) (l : List (BitVec 64)) : Prop := Rd w 1 v l.length (wc l)
section
variable {P : Program} {n : NN} {f : Fr} {w : World} {ty : TypeId}
theorem cE {x : Operand} {t : TypeId} {v : Value} {l : List (BitVec 64)} {i : Int} (k : Nat) (ht : scB P t = true) (hx : f.ev x = some (.pointer (some (ea v (i.toNat * 1))))) (hr : RdW w v l) (hi : i = (k : Int)) (h : k < l.length) : Gives P n f w (.load t x) ty (.int .u64 ((l.getD k 0).toNat : Int)) w := by
 subst hi
 exact dN ht hx hr (by rw [Int.toNat_natCast, Nat.mul_one]; exact wc_get h)
theorem i1 {t e : TypeId} {x y : Operand} {lo m by_ : Nat} {v u : Value} {xs ys : List (BitVec 64)} {zs : List Value} (ht : P.underlying t = some (.slice e)) (he : Ty P e zs 1 by_) (hzs : zs.length = 1)
   (hx : f.ev x = some v) (ho : Own w lo e 1 v m (wc xs)) (hy : f.ev y = some u) (hr : RdW w u ys) (hb : (m + ys.length) * by_ ≤ 140737488355328 ∧ m + ys.length ≤ 9223372036854775807) (hl : lo ≤ w.heap.size) :
   Does P n f w (.call { callee := .builtin .append, args := #[x, y], argTypes := #[t, t] }) ty
     (fun v' w' => Own w' lo e 1 v' (m + ys.length) (wc (xs ++ ys)) ∧ Keep (vblk v) w w' ∧ (∀ x, x ∈ vblk v' → x ∈ vblk v ∨ w.heap.size ≤ x)) :=
 (d_app ht he (by decide) hzs hx ho hy hr (wc_one ys) hb hl).mono fun v' w' ⟨h1, h2, h3, h4⟩ => ⟨by rw [jw]; exact h1, h2, h3⟩
end
end Go.Eng
namespace Go.Eng
open Go Go.IntWalk Go.Sha
section
variable {P : Program} {n : NN} {f : Fr} {w : World} {ty : TypeId}
theorem l8 (xs : List UInt8) (j : Nat) (b : UInt8) : (bv xs).set j (.int .u8 (b.toNat : Int)) = bv (xs.set j b) := by
 unfold bv; rw [List.map_set]
theorem js {t e : TypeId} {x y : Operand} {lo j : Nat} {v : Value} {xs : List UInt8} {zs : List Value} {by_ : Nat} {i : Int} (b : UInt8) (ht : Ty P t zs 1 by_) (hx : f.ev x = some (.pointer (some (ea v j)))) (hy : f.ev y = some (.int .u8 i)) (hi : i = (b.toNat : Int))
   (ho : Own w lo e 1 v xs.length (bv xs)) (hj : j < xs.length) :
   Does P n f w (.store t x y) ty (fun _ w' => Own w' lo e 1 v (xs.set j b).length (bv (xs.set j b)) ∧ Keep (vblk v) w w' ∧ w'.heap.size = w.heap.size) := by
 subst hi
 exact (fK ht hx hy rfl ho (by rw [bL]; exact hj)).mono fun _ w' ⟨h1, h2, h3⟩ => ⟨by rw [List.length_set, ← l8]; exact h1, h2, h3⟩
end
end Go.Eng
namespace Go.Eng
open Go Go.IntWalk Go.Sha
section
variable {P : Program} {n : NN} {f : Fr} {w : World} {ty : TypeId}
end
end Go.Eng
namespace Go.Eng
open Go Go.IntWalk Go.Sha
theorem km (v : BitVec 8) : IntKind.u8.wrap (v.toNat : Int) = v.toNat := IntWalk.u8_in _ (by have := v.isLt; omega)
theorem xor8 (x y : UInt8) : bits .xor .u8 (x.toNat : Int) (y.toNat : Int) = ((x ^^^ y).toNat : Int) := by
 have h : ∀ v : BitVec 8, bits .xor .u8 (x.toNat : Int) (y.toNat : Int) = ((BitVec.ofInt 8 (x.toNat : Int) ^^^ BitVec.ofInt 8 (y.toNat : Int)).toNat : Int) := fun _ => km _
 rw [h 0, BitVec.ofInt_natCast, BitVec.ofInt_natCast, UInt8.toNat_xor, BitVec.toNat_xor, BitVec.toNat_ofNat, BitVec.toNat_ofNat, Nat.mod_eq_of_lt x.toNat_lt, Nat.mod_eq_of_lt y.toNat_lt]
end Go.Eng
namespace Go.Eng
open Go Go.IntWalk Go.Op
section
variable {P : Program} (w : World)
end
variable {P : Program} {n : NN} {f : Fr} {w : World} {ty : TypeId}
end Go.Eng
namespace Go.Eng
open Go Go.IntWalk
section
variable {P : Program} {n : NN} {f : Fr} {w : World} {ty : TypeId}
theorem d_callx {j : FuncId} {args : Array Operand} {ats : Array TypeId} {vs : List Value} {R : Value → World → Prop} (hx : f.evs args.toList = some vs) (hc : ∃ v w', (callFunc j vs.toArray).run P w = .ok (.value v) w' ∧ R v w') :
   Does P n f w (.call { callee := .value (.func j), args := args, argTypes := ats }) ty R := by
 intro a ha dst pos aft g K Q hK
 obtain ⟨v, w', hrun, hR⟩ := hc
 have hm : args.map a.eval = vs.toArray := by rw [← Array.toList_inj]; simp [ha.evs hx]
 have hr : (execOp a.eval ⟨dst, .call { callee := .value (.func j), args := args, argTypes := ats }, ty, pos, aft, g⟩).run P w = .ok (.value v) w' := by
   simp [execOp, resolve, Deferred.ofValue, Act.eval, invoke, hm, hrun]
 unfold Oper.wp
 rw [hr]
 exact hK _ _ hR
theorem g_min {x y : Operand} {k k' : IntKind} {a b : Int} {ts : Array TypeId} (hx : f.ev x = some (.int k a)) (hy : f.ev y = some (.int k' b)) : Gives P n f w (.call { callee := .builtin .min, args := #[x, y], argTypes := ts }) ty (.int k (if b < a then b else a)) w := by
 intro c hc dst pos aft g
 simp [execOp, resolve, invoke, builtin, hc.ev hx, hc.ev hy, run_min_int2]
theorem mnz_run {ps : Array TypeId} {t e : TypeId} (ht : P.underlying t = some (.slice e)) (m : Nat) (hm : m ≤ 140737488355328) : ∃ v w', (Extern.BytealgMakeNoZero.makeNoZero ps #[t] #[.int .i64 m]).run P w = .ok v w' ∧
   ∃ c cs, v = .slice (some ⟨w.heap.size, 0, none⟩) m c ∧ Bk w' w.heap.size e cs ∧ cs.length = c ∧ m ≤ c ∧ c ≤ maxLen ∧ Keep [] w w' := by
 obtain ⟨cs, h1, h2, h3⟩ := Lib.run_makeNoZero (P := P) w ps t e ht m (by omega)
 exact ⟨_, _, h1, cs.size, cs.toList, rfl, dx w.drew.drew e cs, by simp, h2, h3 (dw (by omega)), ((bp w).trans (bp _)).trans (cN _ _)⟩
theorem d_cpq {t u e : TypeId} {x y : Operand} {blk o o' m m' c c' k by_ : Nat} {T : TypeId} {cs zs : List Value} (ht : P.underlying t = some (.slice e)) (he : Ty P e zs 1 by_)
   (hx : f.ev x = some (.slice (some ⟨blk, o, none⟩) m c)) (hy : f.ev y = some (.slice (some ⟨blk, o', none⟩) m' c')) (hb : Bk w blk T cs) (h1 : ∀ v ∈ (cs.drop o').take k, v.oneCell' = true) (hk : k = min m' m) (hfo : o + k ≤ cs.length) (hfo' : o' + k ≤ cs.length) :
   Does P n f w (.call { callee := .builtin .copy, args := #[x, y], argTypes := #[t, u] }) ty
     (fun r w' => r = .int .i64 (k : Int) ∧ Bk w' blk T (cs.take o ++ (cs.drop o').take k ++ cs.drop (o + k)) ∧ Keep [blk] w w' ∧ w'.heap.size = w.heap.size) := by
 intro a ha dst pos aft g K Q hK
 obtain ⟨ti, z, hi, hz, hzc, hsz, hby⟩ := he.parts
 have hsz' : (P.info? e).map (·.size) = some 1 := by rw [hi]; simp [hsz]
 have hlen : ((cs.drop o').take k).length = k := by rw [List.length_take, List.length_drop]; omega
 have hrun := run_copy_row (P := P) w t u ty e blk o m c ⟨blk, o', none⟩ m' c' cs.toArray T ((cs.drop o').take k) ht hsz' hb (by rw [hlen]; exact hk) (fun j v hj => by
     rw [List.getElem?_take] at hj
     split at hj
     · rw [List.getElem?_drop] at hj
       rw [Addr.add_lit, hb.cell]; exact hj
     · cases hj) (by rw [hlen, List.size_toArray]; exact hfo) h1
 have hr : (execOp a.eval ⟨dst, .call { callee := .builtin .copy, args := #[x, y], argTypes := #[t, u] }, ty, pos, aft, g⟩).run P w = .ok (.value (goInt k)) (w.setRow blk (cs.take o ++ (cs.drop o').take k ++ cs.drop (o + k)).toArray) := by
   rw [hlen] at hrun
   simp [execOp, resolve, invoke, builtin, ha.ev hx, ha.ev hy, hrun]
 unfold Oper.wp
 rw [hr]
 exact hK _ _ ⟨rfl, setRow_heap w blk _ _ T _ hb, dp _ _ _, eG _ _ _⟩
theorem d_cpB {t u e : TypeId} {x y : Operand} {blk m c by_ : Nat} {T : TypeId} {cs zs : List Value} {v : Value} {ys : List UInt8} (ht : P.underlying t = some (.slice e)) (he : Ty P e zs 1 by_)
   (hx : f.ev x = some (.slice (some ⟨blk, 0, none⟩) m c)) (hy : f.ev y = some v) (hr : RdB w v ys) (h0 : 0 < ys.length) (hb : Bk w blk T cs) (hk : ys.length ≤ m) (hfo : ys.length ≤ cs.length) :
   Does P n f w (.call { callee := .builtin .copy, args := #[x, y], argTypes := #[t, u] }) ty
     (fun r w' => r = .int .i64 (ys.length : Int) ∧ Bk w' blk T (bv ys ++ cs.drop ys.length) ∧ Keep [blk] w w' ∧ w'.heap.size = w.heap.size) := by
 intro a ha dst pos aft g K Q hK
 obtain ⟨ti, z, hi, hz, hzc, hsz, hby⟩ := he.parts
 have hsz' : (P.info? e).map (·.size) = some 1 := by rw [hi]; simp [hsz]
 obtain ⟨A, c', rfl, _, _, _, h5, h6⟩ := hr
 cases A with
 | none => have := h5 rfl; omega
 | some a' =>
   have hlen : (bv ys).length = ys.length := bL ys
   have hrun := run_copy_row (P := P) w t u ty e blk 0 m c a' ys.length c' cs.toArray T (bv ys) ht hsz' hb (by rw [hlen]; exact (Nat.min_eq_left hk).symm) (fun j v hj => h6 a' rfl j v hj) (by rw [hlen, List.size_toArray]; omega) (j8 ys)
   have hr : (execOp a.eval ⟨dst, .call { callee := .builtin .copy, args := #[x, y], argTypes := #[t, u] }, ty, pos, aft, g⟩).run P w = .ok (.value (goInt ys.length)) (w.setRow blk (bv ys ++ cs.drop ys.length).toArray) := by
     rw [hlen] at hrun
     simp [execOp, resolve, invoke, builtin, ha.ev hx, ha.ev hy, hrun]
   unfold Oper.wp
   rw [hr]
   exact hK _ _ ⟨rfl, setRow_heap w blk _ _ T _ hb, dp _ _ _, eG _ _ _⟩
def Fat (w : World) (lo : Nat) (e : TypeId) (v : Value) (xs : List UInt8) : Prop := RdB w v xs ∧ (∀ x, x ∈ vblk v → lo ≤ x ∧ x < w.heap.size) ∧ (Own w lo e 1 v xs.length (bv xs) ∨ vcap v = xs.length)
theorem Fat.keep {S : List Nat} {w w' : World} {lo : Nat} {e : TypeId} {v : Value} {xs : List UInt8} (h : Fat w lo e v xs) (k : Keep S w w') (hS : ∀ x, lo ≤ x → x ∉ S) : Fat w' lo e v xs :=
 ⟨h.1.keep k (fun x hx => hS x (h.2.1 x hx).1), fun x hx => ⟨(h.2.1 x hx).1, Nat.lt_of_lt_of_le (h.2.1 x hx).2 k.size⟩, h.2.2.imp (fun o => o.keep k (fun x hx => hS x (h.2.1 x hx).1)) id⟩
theorem Fat.lh {w w' : World} {lo : Nat} {e : TypeId} {v : Value} {xs : List UInt8} (h : Fat w lo e v xs) (k : Keep [] w w') : Fat w' lo e v xs := h.keep k (fun _ _ h => by cases h)
theorem d_appG {t e : TypeId} {x y : Operand} {lo : Nat} {v u : Value} {xs ys : List UInt8} (ht : P.underlying t = some (.slice e)) (he : Ty P e [.int .u8 0] 1 1)
   (hx : f.ev x = some v) (ho : Fat w lo e v xs) (hy : f.ev y = some u) (hr : RdB w u ys) (hb : xs.length + ys.length ≤ 140737488355328) (hl : lo ≤ w.heap.size) :
   Does P n f w (.call { callee := .builtin .append, args := #[x, y], argTypes := #[t, t] }) ty
     (fun v' w' => Fat w' lo e v' (xs ++ ys) ∧ Keep (vblk v) w w') := by
 obtain ⟨h1, h2, h3⟩ := ho
 rcases h3 with h3 | h3
 · refine (bS ht he hx h3 hy hr hb hl).mono fun v' w' ⟨g1, g2, g3, _⟩ => ⟨⟨?_, g1.blk, .inl ?_⟩, g2⟩
   · have := g1.rd; unfold RdB; rw [List.length_append]; exact this
   · rw [List.length_append]; exact g1
 · by_cases h0 : ys.length = 0
   · have hys : ys = [] := List.eq_nil_of_length_eq_zero h0
     subst hys
     intro a ha dst pos aft g K Q hK
     obtain ⟨ti, z, hi, hz, hzc, hsz, hby⟩ := he.parts
     obtain ⟨A', c', rfl, q2, q3, q4, q5, q6⟩ := hr
     obtain ⟨A, c, rfl, r2, r3, r4, r5, r6⟩ := id h1
     have hrun := dQ (P := P) (w := w) t ty e ti ht hi A xs.length c r2 A' c'
     have hr : (execOp a.eval ⟨dst, .call { callee := .builtin .append, args := #[x, y], argTypes := #[t, t] }, ty, pos, aft, g⟩).run P w = .ok (.value (.slice A xs.length c)) w := by
       simp [execOp, resolve, invoke, builtin, ha.ev hx, ha.ev hy, hrun]
     unfold Oper.wp
     rw [hr]
     refine hK _ _ ⟨?_, Keep.refl _ _⟩
     rw [List.append_nil]; exact ⟨h1, h2, .inr h3⟩
   · refine (lX (lo := lo) ht he hx h1 h3 hy hr (by omega) hb hl).mono fun v' w' ⟨g1, g2, g3⟩ => ⟨⟨?_, g1.blk, .inl ?_⟩, g2.weak⟩
     · have := g1.rd; unfold RdB; rw [List.length_append]; exact this
     · rw [List.length_append]; exact g1
theorem iR {T : TypeId} {g c : Nat} {xs : List UInt8} {J : List Value} (h : Bk w g T (bv xs ++ J)) (hc : xs.length ≤ c) (hm : c ≤ maxLen) : RdB w (.slice (some ⟨g, 0, none⟩) xs.length c) xs := by
 refine ⟨_, _, rfl, hc, hm, by rw [bL, Nat.mul_one], (fun h => by cases h), fun a ha => ?_⟩
 cases ha
 intro j u hj
 rw [Addr.add_lit, Nat.zero_add, h.cell, List.getElem?_append_left (List.getElem?_eq_some_iff.1 hj).1]; exact hj
end
def padK (k : List UInt8) (x : UInt8) : List UInt8 := k.map (· ^^^ x) ++ List.replicate (64 - k.length) x
theorem cw {k : List UInt8} (h : k.length ≤ 64) (x : UInt8) : (padK k x).length = 64 := by unfold padK; rw [List.length_append, List.length_map, List.length_replicate]; omega
def padI (k : List UInt8) (x : UInt8) (i : Nat) : List UInt8 := padK (k.take i) x
theorem lH (k : List UInt8) (x : UInt8) : padI k x k.length = padK k x := by unfold padI; rw [List.take_length]
theorem lG {k : List UInt8} {x : UInt8} {i : Nat} (h : i < k.length) (h6 : k.length ≤ 64) : (padI k x i)[i]? = some x := by
 unfold padI padK
 rw [List.getElem?_append_right (by rw [List.length_map, List.length_take]; omega), List.length_map, List.getElem?_replicate, List.length_take, if_pos (by omega)]
theorem kW {k : List UInt8} {x c : UInt8} {i : Nat} (h : k[i]? = some c) (h6 : k.length ≤ 64) : (padI k x i).set i (x ^^^ c) = padI k x (i + 1) := by
 have hi : i < k.length := (List.getElem?_eq_some_iff.1 h).1
 unfold padI padK
 rw [Byt.bl h, List.map_append, List.length_append, List.length_take, Nat.min_eq_left (by omega), show 64 - i = (64 - (i + [c].length)) + 1 from by simp only [List.length_singleton]; omega, List.replicate_succ, List.set_append_right _ _ (by rw [List.length_map, List.length_take]; omega), List.length_map, List.length_take, Nat.min_eq_left (by omega), Nat.sub_self, List.set_cons_zero, List.append_assoc, List.map_singleton, List.singleton_append, UInt8.xor_comm]
theorem kX {k : List UInt8} {x : UInt8} {i : Nat} {J : List Value} (h : i < k.length) (h6 : k.length ≤ 64) : (bv (padI k x i) ++ J)[i]? = some (.int .u8 (x.toNat : Int)) := by
 have hl : (padI k x i).length = 64 := cw (by rw [List.length_take]; omega) x
 rw [List.getElem?_append_left (by rw [bL, hl]; omega)]
 unfold bv
 rw [List.getElem?_map, lG h h6]; rfl
theorem lF {k : List UInt8} {x c : UInt8} {i : Nat} {J : List Value} (h : k[i]? = some c) (h6 : k.length ≤ 64) : (bv (padI k x i) ++ J).set i (.int .u8 ((x ^^^ c).toNat : Int)) = bv (padI k x (i + 1)) ++ J := by
 have hi : i < k.length := (List.getElem?_eq_some_iff.1 h).1
 have hl : (padI k x i).length = 64 := cw (by rw [List.length_take]; omega) x
 rw [List.set_append_left _ _ (by rw [bL, hl]; omega), l8, kW h h6]
theorem gM {k : List UInt8} {x : UInt8} {i : Nat} (h6 : i < 64) : (padK k x)[i]? = some (if h : i < k.length then k[i] ^^^ x else x) := by
 unfold padK
 by_cases h : i < k.length
 · rw [dif_pos h, List.getElem?_append_left (by rw [List.length_map]; exact h), List.getElem?_map, List.getElem?_eq_getElem h]; rfl
 · rw [dif_neg h, List.getElem?_append_right (by rw [List.length_map]; omega), List.length_map, List.getElem?_replicate, if_pos (by omega)]
theorem fG {p : List UInt8} {b c : UInt8} {i : Nat} (h : p[i]? = some b) (hp : p.length = 64) : (p.take i ++ List.replicate (64 - i) c).set i b = p.take (i + 1) ++ List.replicate (64 - (i + 1)) c := by
 have hi : i < p.length := (List.getElem?_eq_some_iff.1 h).1
 rw [Byt.bl h, show 64 - i = (64 - (i + 1)) + 1 from by omega, List.replicate_succ, List.set_append_right _ _ (by rw [List.length_take]; omega), List.length_take, Nat.min_eq_left (by omega), Nat.sub_self, List.set_cons_zero, List.append_assoc, List.singleton_append]
theorem im (n : Nat) : List.replicate n (Value.int .u8 0) = bv (List.replicate n 0) := by unfold bv; rw [List.map_replicate]; rfl
def dD (xs : List UInt8) : List UInt8 := Sha.sum Sha.bf Sha.Kl Sha.Hl xs
theorem db (xs : List UInt8) : (dD xs).length = 32 := by unfold dD Sha.sum; rw [Sha.iy]
def keyK (k : List UInt8) : List UInt8 := if 64 < k.length then dD k else k
theorem gO (k : List UInt8) : (keyK k).length ≤ 64 := by
 unfold keyK
 split
 · rw [db]; decide
 · omega
def hmacL (k : List UInt8) (ls : List (List UInt8)) : List UInt8 := dD (padK (keyK k) 92 ++ dD (padK (keyK k) 54 ++ ls.flatten))
def hmacB (k t : List UInt8) : List UInt8 := dD (padK (keyK k) 92 ++ dD (padK (keyK k) 54 ++ t))
theorem hmacL_1 (k t : List UInt8) : hmacL k [t] = hmacB k t := by unfold hmacL hmacB; rw [List.flatten_singleton]
theorem ke (k t : List UInt8) : (hmacB k t).length = 32 := db _
end Go.Eng
namespace Go.Proofs.YtjfmmoonpdifcaaDoor.W
open Go Go.Eng Go.Byt
theorem j1 (w : World) : Rets Tryd.prog 90 [.int .u64 1, .int .u64 64] w (fun v w' => v = .tuple #[.int .u64 0, .int .u64 64] ∧ w = w') := by
 refine ad Tryd.func90 rfl (by decide) Tryd.ntmps90 rfl (fun fin _ hfin => ?_)
 refine aY (aX (oga rfl rfl (oga rfl rfl (aZ (aY (aX ?_))))))
 refine ogm rfl rfl (a4 (ak (j := 1) (ei rfl rfl) (by decide)) rfl ?_)
 refine oga rfl rfl (aZ (aY (aX (ogm rfl rfl (a4 (ak (j := 0) (gm (m := 4294967296) rfl rfl (by decide) rfl) (by decide)) rfl ?_)))))
 refine oga rfl rfl (aZ (aY (aX (ogm rfl rfl (a4 (ak (j := 64) (ei rfl rfl) (by decide)) rfl ?_)))))
 refine oga rfl rfl (aZ (aY (aX (ogm rfl rfl (a4 (ak (j := 0) (gm (m := 4294967296) rfl rfl (by decide) rfl) (by decide)) rfl ?_)))))
 refine oga rfl rfl (aZ (aY (aX (ogm rfl rfl (ogm rfl rfl (a4 (ak (j := 64) (cJ rfl rfl) (by decide)) rfl ?_))))))
 refine oga rfl rfl (aZ (aY (aX (ogm rfl rfl (ogm rfl rfl (a4 (ak (j := 0) (cJ rfl rfl) (by decide)) rfl ?_))))))
 refine ogm rfl rfl (a4 (ak (j := 0) (gm (m := 4294967296) rfl rfl (by decide) rfl) (by decide)) rfl ?_)
 refine a4 (ak (j := 0) (bk rfl rfl) (by decide)) rfl ?_
 refine oga rfl rfl (aZ (aY (aX (ogm rfl rfl (a4 (ak (j := 0) (ei rfl rfl) (by decide)) rfl ?_)))))
 refine oga rfl rfl (aZ (aY (aX (ogm rfl rfl (a4 (ak (j := 0) (gm (m := 4294967296) rfl rfl (by decide) rfl) (by decide)) rfl ?_)))))
 refine oga rfl rfl (aZ (aY (aX (ogm rfl rfl (ogm rfl rfl (ogm rfl rfl ?_))))))
 refine a4 (ak (j := 0) (cJ rfl rfl) (by decide)) rfl ?_
 refine a4 (ak (j := 0) (bk rfl rfl) (by decide)) rfl ?_
 refine oga rfl rfl (aZ (aY (aX (ogm rfl rfl (ogm rfl rfl (a4 (ak (j := 0) (cJ rfl rfl) (by decide)) rfl ?_))))))
 refine ogm rfl rfl (a4 (ak (j := 0) (bk rfl rfl) (by decide)) rfl ?_)
 refine ogm rfl rfl (a4 (ak (j := 0) (gm (m := 4294967296) rfl rfl (by decide) rfl) (by decide)) rfl ?_)
 refine a4 (ak (j := 0) (bk rfl rfl) (by decide)) rfl ?_
 refine oga rfl rfl (aZ (aY (aX (ogm rfl rfl (ogm rfl rfl (a4 (ak (j := 64) (cJ rfl rfl) (by decide)) rfl ?_))))))
 refine oga rfl rfl (aZ (bK hfin Tryd.results90 rfl rfl ?_))
 exact ⟨rfl, rfl⟩
theorem lK (w : World) : Rets Tryd.prog 82 [.int .u64 1, .int .u64 64] w (fun v w' => v = .tuple #[.int .u64 0, .int .u64 64] ∧ w = w') := by
 refine ad Tryd.func82 rfl (by decide) Tryd.ntmps82 rfl (fun fin _ hfin => ?_)
 refine aY (aX (oga rfl rfl (oga rfl rfl (aZ (aY (gy rfl ?_))))))
 refine a8 (aY (aX (ogm rfl rfl (ogm rfl rfl (ah (a7 (vs := [_, _]) rfl (j1 _)) rfl ?_)))))
 rintro _ _ ⟨rfl, rfl⟩
 refine ogm rfl rfl (a4 (bm (vs := [_, _]) rfl rfl) rfl ?_)
 refine a4 (bm (vs := [_, _]) rfl rfl) rfl ?_
 refine oga rfl rfl (oga rfl rfl (aZ (aY (aX (ogm rfl rfl (ogm rfl rfl ?_))))))
 refine oga rfl rfl (oga rfl rfl (aZ (bK hfin Tryd.results82 rfl rfl ?_)))
 exact ⟨rfl, rfl⟩
theorem mnz64 (w : World) : ∃ v w', (callFunc 83 #[.int .i64 64]).run Tryd.prog w = .ok (.value v) w' ∧ ∃ c cs, v = .slice (some ⟨w.heap.size, 0, none⟩) 64 c ∧ Bk w' w.heap.size 5 cs ∧ cs.length = c ∧ 64 ≤ c ∧ c ≤ maxLen ∧ Keep [] w w' := by
 obtain ⟨v, w', h1, h2⟩ := mnz_run (P := Tryd.prog) (w := w) (ps := #[3]) (t := 22) (e := 5) aA 64 (by decide)
 refine ⟨v, w', ?_, h2⟩
 rw [run_callFunc_extern Tryd.func83 (by kernel_rfl) (by kernel_rfl) (by kernel_rfl) (e := Extern.BytealgMakeNoZero.makeNoZero #[3] #[22]) (by kernel_rfl)]
 rw [show (64 : Int) = ((64 : Nat) : Int) from rfl, h1]; rfl
theorem rep64 {i : Nat} {x : UInt8} {J : List Value} (h1 : 1 ≤ i) (h2 : i < 64) (hJ : 64 ≤ J.length) : (bv (List.replicate i x) ++ J.drop i).take i ++ ((bv (List.replicate i x) ++ J.drop i).drop 0).take (min i (64 - i)) ++ (bv (List.replicate i x) ++ J.drop i).drop (i + min i (64 - i)) = bv (List.replicate (i + min i (64 - i)) x) ++ J.drop (i + min i (64 - i)) := by
 have hl : (bv (List.replicate i x)).length = i := by rw [bL, List.length_replicate]
 rw [List.take_left' hl, List.drop_zero, List.take_append_of_le_length (by rw [hl]; omega), List.drop_append, hl, List.drop_eq_nil_of_le (by rw [hl]; omega), List.nil_append, List.drop_drop, show i + (i + min i (64 - i) - i) = i + min i (64 - i) from by omega, ju, List.take_replicate, Nat.min_eq_left (show min i (64 - i) ≤ i by omega), ← fw, List.replicate_append_replicate]
theorem kQ {i : Nat} {x : UInt8} {J : List Value} : ∀ v ∈ ((bv (List.replicate i x) ++ J.drop i).drop 0).take (min i (64 - i)), v.oneCell' = true := by
 intro v hv
 rw [List.drop_zero, List.take_append_of_le_length (by rw [bL, List.length_replicate]; omega)] at hv
 exact j8 _ v (List.mem_of_mem_take hv)
theorem cut_tl (g i : Nat) (h : i < 64) : cut (.slice (some ⟨g, 0, none⟩) 64 64) i 64 1 = .slice (some ⟨g, i, none⟩) (64 - i) (64 - i) := by
 unfold cut; simp [Addr.add_lit]; omega
theorem cut_hd (g i : Nat) : cut (.slice (some ⟨g, 0, none⟩) 64 64) 0 i 1 = .slice (some ⟨g, 0, none⟩) i 64 := by
 unfold cut; simp [Addr.add_lit]
theorem iQ (v : Value) (x : UInt8) (w : World) (hv : Rd w 1 v 1 (bv [x])) : Rets Tryd.prog 75 [v, .int .i64 64] w (fun r w' => ∃ g J, r = .slice (some ⟨g, 0, none⟩) 64 64 ∧ w.heap.size ≤ g ∧ Bk w' g 5 (bv (List.replicate 64 x) ++ J) ∧ Keep [] w w') := by
  have hB : Keep [] w w := Keep.refl _ _
  refine ad Tryd.func75 rfl (by decide) Tryd.ntmps75 rfl (fun fin _ hfin => ?_)
  refine aY ?_
  refine aX ?_
  refine oga rfl rfl ?_
  refine aZ ?_
  refine aY ?_
  refine aY ?_
  refine aX ?_
  refine ogm rfl rfl ?_
  refine a4 (bF rfl rfl) rfl ?_
  refine aZ ?_
  refine co rfl (by decide) ?_
  refine a8 ?_
  refine aY ?_
  refine aY ?_
  refine aX ?_
  refine ogm rfl rfl ?_
  refine a4 (bO rfl rfl) rfl ?_
  refine aZ ?_
  refine co rfl (by decide) ?_
  refine a8 ?_
  refine aY ?_
  refine aX ?_
  refine ogm rfl rfl ?_
  refine a4 (bI aA rfl (by first | assumption | exact Own.rd (by assumption) | exact Rd.lh (by assumption) hB | exact Own.rd (Own.lh (by assumption) hB))) rfl ?_
  refine a4 (ak (j := 1) (dY (by rw [aK]; rfl) aP rfl) (by decide)) rfl ?_
  refine ogm rfl rfl ?_
  refine a4 (ak (j := 64) (dY (by rw [aK]; rfl) aP rfl) (by decide)) rfl ?_
  refine ah (a7 (vs := [_, _]) rfl (lK _)) rfl ?_
  rintro _ _ ⟨rfl, rfl⟩
  refine ogm rfl rfl ?_
  refine a4 (bm (vs := [_, _]) rfl rfl) rfl ?_
  refine a4 (bm (vs := [_, _]) rfl rfl) rfl ?_
  refine oga rfl rfl ?_
  refine oga rfl rfl ?_
  refine aZ ?_
  refine ab [(0, _), (5, _), (6, _)] ⟨rfl, rfl, rfl, trivial⟩ ?_
  refine aY ?_
  refine aY ?_
  refine aX ?_
  refine ogm rfl rfl ?_
  refine a4 (dr rfl rfl) rfl ?_
  refine ogm rfl rfl ?_
  refine gC (grdT rfl rfl rfl (decide_eq_false (by decide))) (av rfl) rfl ?_
  refine gC (grdT rfl rfl rfl (decide_eq_false (by decide))) (dr rfl rfl) rfl ?_
  refine a4 (g_pickF rfl (decide_eq_false (by decide)) rfl) rfl ?_
  refine aZ ?_
  refine co rfl (by decide) ?_
  refine a8 ?_
  refine aY ?_
  refine aX ?_
  refine ogm rfl rfl ?_
  refine a4 (ak (j := 64) (dY (by rw [aP]; rfl) aK rfl) (by decide)) rfl ?_
  refine oga rfl rfl ?_
  refine aZ ?_
  refine ab [(0, _), (7, _)] ⟨rfl, rfl, trivial⟩ ?_
  refine aY ?_
  refine aY ?_
  refine aX ?_
  refine ogm rfl rfl ?_
  refine a4 (bI aA rfl (by first | assumption | exact Own.rd (by assumption) | exact Rd.lh (by assumption) hB | exact Own.rd (Own.lh (by assumption) hB))) rfl ?_
  refine a4 (bF rfl rfl) rfl ?_
  refine aZ ?_
  refine co rfl (by decide) ?_
  refine a8 ?_
  refine aY ?_
  refine aX ?_
  refine ogm rfl rfl ?_
  refine oga rfl rfl ?_
  refine aZ ?_
  refine aY ?_
  refine aY ?_
  refine aX ?_
  refine ogm rfl rfl ?_
  refine a4 (dr rfl rfl) rfl ?_
  refine aZ ?_
  refine co rfl (by decide) ?_
  refine a8 ?_
  refine aY ?_
  refine aX ?_
  refine ogm rfl rfl ?_
  refine ah (d_callx rfl (mnz64 _)) rfl ?_
  rintro _ w1 ⟨c, J, rfl, hbJ, hJl, hc1, hc2, k1⟩
  obtain ⟨g, hg⟩ : ∃ g, g = w.heap.size := ⟨_, rfl⟩
  rw [← hg] at hbJ ⊢
  have ge_g : w.heap.size ≤ g := by have := hB.size; omega
  replace hB := hB.trans k1
  refine ogm rfl rfl ?_
  refine ogm rfl rfl ?_
  refine a4 (aw (v' := .slice (some ⟨g, 0, none⟩) 64 64) (g_sl3 aA bu rfl rfl rfl ⟨by decide, by decide, by omega⟩) (by simp [Addr.add_lit])) rfl ?_
  refine oga rfl rfl ?_
  refine aZ ?_
  refine ab [(0, _), (7, _), (8, _), (9, _)] ⟨rfl, rfl, rfl, rfl, trivial⟩ ?_
  refine aY ?_
  refine aX ?_
  refine ogm rfl rfl ?_
  refine ogm rfl rfl ?_
  refine ah (d_cpB aA bu rfl rfl (show RdB _ v [x] from hv.lh hB) (Nat.succ_pos 0) hbJ (show 1 ≤ 64 by decide) (by show 1 ≤ _; omega)) rfl ?_
  rintro _ w2 ⟨rfl, hbx, k2, _⟩
  replace hB := hB.new k2 (nw ge_g)
  refine oga rfl rfl ?_
  refine aZ ?_
  refine aY ?_
  refine ag ?_
  refine bT (Γ := Nat) (fun i => [(7, .int .i64 64), (8, .int .i64 64), (9, .slice (some ⟨g, 0, none⟩) 64 64), (10, .int .i64 (i : Int))]) (fun i W => 1 ≤ i ∧ i ≤ 64 ∧ Bk W g 5 (bv (List.replicate i x) ++ J.drop i) ∧ Keep [] w W) (fun i => 64 - i) 1 ⟨rfl, rfl, rfl, rfl, trivial⟩ (⟨by decide, by decide, hbx, hB⟩) ?_
  rintro i w3 ⟨hi0, hi1, hbx, hB⟩
  refine ab [(7, .int .i64 64), (8, .int .i64 64), (9, .slice (some ⟨g, 0, none⟩) 64 64), (10, .int .i64 (i : Int))] ⟨rfl, rfl, rfl, rfl, trivial⟩ ?_
  refine aY ?_
  refine aY ?_
  refine aX ?_
  refine ogm rfl rfl ?_
  refine ogm rfl rfl ?_
  refine a4 (bO rfl rfl) rfl ?_
  refine aZ ?_
  refine ar rfl (fun hc1 => ?_) (fun hc1 => ?_)
  · -- yes
    refine a8 ?_
    refine ag ?_
    refine aY ?_
    refine aX ?_
    refine ogm rfl rfl ?_
    refine ogm rfl rfl ?_
    refine a4 (aw (v' := .int .i64 (i : Int)) (g_min rfl rfl) (by rw [if_neg (by omega)])) rfl ?_
    refine oga rfl rfl ?_
    refine aZ ?_
    refine cR 8 [0, 1, 2, 3, 4, 5, 6, 7] [7] [g] [] mixed [(10, _), (9, _), (11, _), (7, _), (8, _)] ⟨rfl, rfl, rfl, rfl, rfl, trivial⟩ (by decide +kernel) (by decide) (by decide) ?_ (fun x hx => (List.mem_singleton.1 hx) ▸ hbx.lt) rfl (fun w4 k3 => ?_)
    · intro q hq; cases hq
    replace hbx := hbx.lh k3
    replace hB := hB.trans k3
    refine cM 10 rfl rfl rfl rfl rfl ?_
    refine cM 9 rfl rfl rfl rfl rfl ?_
    refine cM 10 rfl rfl rfl rfl rfl ?_
    refine cZ 68 69 rfl rfl rfl rfl rfl (fun W' kk => aw (v' := .slice (some ⟨g, i, none⟩) (64 - i) (64 - i)) (g_slv aA bu rfl (by decide) (by decide) (.inr ⟨_, _, rfl, rfl⟩) (.inl ⟨rfl, rfl⟩) (by omega)) (cut_tl g i (by omega))) ?_
    refine cM 9 rfl rfl rfl rfl rfl ?_
    refine cM 11 rfl rfl rfl rfl rfl ?_
    refine cZ 71 72 rfl rfl rfl rfl rfl (fun W' kk => aw (v' := .slice (some ⟨g, 0, none⟩) i 64) (g_slv aA bu rfl (by decide) (by decide) (.inl ⟨rfl, rfl⟩) (.inr ⟨_, _, rfl, rfl⟩) (by omega)) (cut_hd g i)) ?_
    refine ix [(70, _), (73, _)] rfl rfl ⟨rfl, rfl, trivial⟩ rfl (fun w5 k4 => ?_)
    replace hbx := hbx.lh k4
    replace hB := hB.trans k4
    refine (d_cpq (k := min i (64 - i)) aA bu rfl rfl hbx kQ rfl (by rw [List.length_append, bL, List.length_replicate, List.length_drop]; omega) (by rw [List.length_append, bL, List.length_replicate, List.length_drop]; omega)).mono ?_
    rintro _ w6 ⟨rfl, hbx2, km1, _⟩
    rw [rep64 hi0 (by omega) (by omega)] at hbx2
    replace hB := hB.new km1 (nw ge_g)
    refine ⟨km1, nox, ?_⟩
    refine dc (fun w7 k5 => ?_)
    replace hbx2 := hbx2.lh k5
    replace hB := hB.trans k5
    refine cT ?_
    refine a4 (br rfl rfl (by omega)) rfl ?_
    refine oga rfl rfl ?_
    refine aZ ?_
    refine ab [(10, _), (9, _), (7, _), (8, _)] ⟨rfl, rfl, rfl, rfl, trivial⟩ ?_
    refine bg ?_
    refine bd (Γ := Nat) (i + min i (64 - i)) ⟨rfl, rfl, rfl, rfl, trivial⟩ (by (try dsimp only); omega) (⟨by omega, by omega, hbx2, hB⟩)
  · -- no
    refine bN rfl ?_
    refine aY ?_
    refine aX ?_
    refine ogm rfl rfl ?_
    refine oga rfl rfl ?_
    refine aZ ?_
    refine af hfin Tryd.results75 rfl ?_
    obtain rfl : i = 64 := by omega
    exact ⟨g, J.drop 64, rfl, ge_g, hbx, hB⟩
end Go.Proofs.YtjfmmoonpdifcaaDoor.W
namespace Go.Sha
open Go Go.Eng Go.Byt Go.IntWalk
theorem fT (x : Int) : IntKind.u32.wrap x = x % 4294967296 := fS (by decide) x
theorem fj (v : BitVec 32) : IntKind.u32.wrap (v.toNat : Int) = v.toNat := by rw [fT, Int.emod_eq_of_lt (by omega) (by have := v.isLt; omega)]
theorem fH (v : BitVec 32) : BitVec.ofInt 32 (v.toNat : Int) = v := by rw [BitVec.ofInt_natCast, BitVec.ofNat_toNat]; simp
theorem low32 (v : BitVec 64) (x : BitVec 32) (h : v.toNat = x.toNat) : IntKind.u32.wrap (v.toNat : Int) = (x.toNat : Int) := by
 rw [fT, h, Int.emod_eq_of_lt (by omega) (by have := x.isLt; omega)]
theorem eP (x : BitVec 32) : (x.setWidth 64).toNat = x.toNat := by rw [BitVec.toNat_setWidth]; exact Nat.mod_eq_of_lt (by have := x.isLt; omega)
theorem xor32 (x y : BitVec 32) : bits .xor .u32 (x.toNat : Int) (y.toNat : Int) = ((x ^^^ y).toNat : Int) := by
 show IntKind.u32.wrap ((BitVec.ofInt 32 (x.toNat : Int) ^^^ BitVec.ofInt 32 (y.toNat : Int)).toNat : Int) = _
 rw [fH, fH, fj]
theorem or32 (x y : BitVec 32) : bits .or .u32 (x.toNat : Int) (y.toNat : Int) = ((x ||| y).toNat : Int) := by
 show IntKind.u32.wrap ((BitVec.ofInt 32 (x.toNat : Int) ||| BitVec.ofInt 32 (y.toNat : Int)).toNat : Int) = _
 rw [fH, fH, fj]
theorem and32 (x y : BitVec 32) : bits .and .u32 (x.toNat : Int) (y.toNat : Int) = ((x &&& y).toNat : Int) := by
 show IntKind.u32.wrap ((BitVec.ofInt 32 (x.toNat : Int) &&& BitVec.ofInt 32 (y.toNat : Int)).toNat : Int) = _
 rw [fH, fH, fj]
theorem add32 (x y : BitVec 32) : IntKind.u32.wrap ((x.toNat : Int) + (y.toNat : Int)) = ((x + y).toNat : Int) := by
 rw [fT, BitVec.toNat_add]; omega
theorem shr32 (x : BitVec 32) (r : Nat) : (x.toNat : Int) / 2 ^ r = ((x >>> r).toNat : Int) := by
 rw [BitVec.toNat_ushiftRight, Nat.shiftRight_eq_div_pow]; exact_mod_cast rfl
theorem shl32 (x : BitVec 32) (r : Nat) : IntKind.u32.wrap ((x.toNat : Int) * 2 ^ r) = ((x <<< r).toNat : Int) := by
 rw [fT, BitVec.toNat_shiftLeft, Nat.shiftLeft_eq, Int.natCast_emod, Int.natCast_mul, Int.natCast_pow]; rfl
theorem com32 (x : BitVec 32) : bits .xor .u32 4294967295 (x.toNat : Int) = ((~~~x).toNat : Int) := by
 have e : (4294967295 : Int) = ((BitVec.allOnes 32).toNat : Int) := by decide
 rw [e, xor32, BitVec.xor_comm, BitVec.xor_allOnes]
theorem byt32 (c : UInt8) : ((c.toNat : Nat) : Int) = ((BitVec.ofNat 32 c.toNat).toNat : Int) := by
 rw [BitVec.toNat_ofNat, Nat.mod_eq_of_lt (by have := c.toNat_lt; omega)]
theorem cst32 (K : List Nat) (hK : ∀ x ∈ K, x < 2 ^ 64) (t : Nat) : (((KB K).getD t 0) >>> 32).toNat = (cst 32 K t).toNat := by
 unfold KB cst
 rw [List.getD_eq_getElem?_getD, List.getD_eq_getElem?_getD, List.getElem?_map]
 cases h : K[t]? with
 | none => simp
 | some x =>
   have hx := hK x (List.mem_of_getElem? h)
   simp only [Option.map_some, Option.getD_some]
   rw [BitVec.toNat_ushiftRight, BitVec.toNat_ofNat, BitVec.toNat_ofNat, Nat.shiftRight_eq_div_pow, Nat.mod_eq_of_lt hx, Nat.mod_eq_of_lt (by omega)]
theorem i2 (K : List Nat) (hK : ∀ x ∈ K, x < 2 ^ 64) (t : Nat) : IntKind.u32.wrap (((((KB K).getD t 0) >>> 32).toNat : Nat) : Int) = ((cst 32 K t).toNat : Int) := low32 _ _ (cst32 K hK t)
theorem eO : ∀ x ∈ Kl, x < 2 ^ 64 := by decide
theorem ff : ∀ x ∈ Hl, x < 2 ^ 64 := by decide
theorem iw (xs : List UInt8) : pad 32 xs = (xs ++ 128 :: List.replicate (zs 32 xs.length) 0) ++ be (8 * (xs.length : Int)) 8 := by
 unfold pad
 rw [show 32 / 4 - 8 = 0 from rfl, Nat.add_zero]
 simp only [List.append_assoc, List.cons_append]
theorem fY (xs : List UInt8) : (pad 32 xs).length = 64 * ((pad 32 xs).length / (2 * 32)) := by
 have h := gJ (n := 32) (len := xs.length) (by decide) (by decide)
 rw [ge]
 omega
theorem iu (xs : List UInt8) : (pad 32 xs).length ≤ xs.length + 145 := by
 have h := gJ (n := 32) (len := xs.length) (by decide) (by decide)
 rw [ge]
 omega
theorem gF {P : Pl 32} {K : List Nat} {m : Nat} {b : List UInt8} {s : S8 32} (h : 0 < m) : blks P K m b s = blks P K (m - 1) (b.drop 64) (blk P K (b.take 64) s) := by
 obtain ⟨q, rfl⟩ : ∃ q, m = q + 1 := ⟨m - 1, by omega⟩
 rfl
theorem gp {X : S8 32} {i : Nat} {x : BitVec 32} (h : (de X)[i]? = some x) : ((de X).take (i + 1)).flatMap (fun x => be (x.toNat : Int) 4) = ((de X).take i).flatMap (fun x => be (x.toNat : Int) 4) ++ be (x.toNat : Int) 4 := by
  rw [bl h, List.flatMap_append]; simp
theorem jC (X : S8 32) (i : Nat) : (((de X).take i).flatMap fun x => be (x.toNat : Int) 4).length ≤ 32 := by
  have h : ∀ l : List (BitVec 32), (l.flatMap fun x => be (x.toNat : Int) 4).length = 4 * l.length := by
    intro l
    induction l with
    | nil => rfl
    | cons x r ih => rw [List.flatMap_cons, List.length_append, ih, bx, List.length_cons]; omega
  rw [h, List.length_take]; have : (de X).length = 8 := rfl; omega
abbrev W6 (x : BitVec 32) : BitVec 64 := x.setWidth 64
theorem msk (v : BitVec 64) : v &&& 4294967295#64 = W6 (v.setWidth 32) := by
 apply BitVec.eq_of_toNat_eq
 rw [BitVec.toNat_and, eP, BitVec.toNat_setWidth]
 exact Nat.and_two_pow_sub_one_eq_mod v.toNat 32
theorem eE (x : BitVec 32) : (W6 x).setWidth 32 = x := by
 apply BitVec.eq_of_toNat_eq
 rw [BitVec.toNat_setWidth, eP]; exact Nat.mod_eq_of_lt x.isLt
theorem ku (x : BitVec 32) (r : Nat) : W6 x >>> r = W6 (x >>> r) := by
 apply BitVec.eq_of_toNat_eq
 rw [BitVec.toNat_ushiftRight, eP, eP, BitVec.toNat_ushiftRight]
theorem sw_shl (x : BitVec 32) (k : Nat) : (W6 x <<< k).setWidth 32 = x <<< k := by
 apply BitVec.eq_of_toNat_eq
 rw [BitVec.toNat_setWidth, BitVec.toNat_shiftLeft, BitVec.toNat_shiftLeft, eP]
 exact Nat.mod_mod_of_dvd _ (by decide)
theorem iM (x y : BitVec 32) : W6 x ^^^ W6 y = W6 (x ^^^ y) := BitVec.setWidth_xor.symm
theorem sw_or (x y : BitVec 32) : W6 x ||| W6 y = W6 (x ||| y) := BitVec.setWidth_or.symm
theorem dh (a b : BitVec 64) : (a + b).setWidth 32 = a.setWidth 32 + b.setWidth 32 := BitVec.setWidth_add _ _ (by decide)
theorem sw_rot' (x : BitVec 32) (r : Nat) : ((W6 x >>> r) ||| (W6 x <<< (32 - r))).setWidth 32 = tn x r := by
 rw [BitVec.setWidth_or, ku, eE, sw_shl]; rfl
theorem sw_lo (l : T3) (x : BitVec 32) : W6 (tn x l.1) ^^^ W6 (tn x l.2.1) ^^^ (W6 x >>> l.2.2) = W6 (lo l x) := by rw [ku, iM, iM]; rfl
theorem sw_hi (l : T3) (x : BitVec 32) : W6 (tn x l.1) ^^^ W6 (tn x l.2.1) ^^^ W6 (tn x l.2.2) = W6 (hi l x) := by rw [iM, iM]; rfl
theorem da (K : List Nat) (hK : ∀ x ∈ K, x < 2 ^ 64) (t : Nat) : (KB K).getD t 0 >>> 32 = W6 (cst 32 K t) := by
 apply BitVec.eq_of_toNat_eq
 rw [eP]; exact cst32 K hK t
def wm (l : List (BitVec 32)) : List (BitVec 64) := l.map W6
theorem dB (l : List (BitVec 32)) : (wm l).length = l.length := List.length_map _
theorem jK (l m : List (BitVec 32)) : wm (l ++ m) = wm l ++ wm m := List.map_append
theorem fg (l : List (BitVec 32)) (i : Nat) : (wm l).getD i 0 = W6 (l.getD i 0) := by
 unfold wm
 rw [List.getD_eq_getElem?_getD, List.getD_eq_getElem?_getD, List.getElem?_map]
 cases l[i]? <;> rfl
theorem sw_wrd (b : List UInt8) (h : b.length ≤ 4) : wrdF (n := 64) 0 b = W6 (wrdF (n := 32) 0 b) := by
 have key : ∀ (b : List UInt8) (k : Nat) (x : BitVec 32) (y : BitVec 64), b.length + k ≤ 4 → x.toNat < 2 ^ (8 * k) → y = W6 x → wrdF y b = W6 (wrdF x b) := by
   intro b
   induction b with
   | nil => intro k x y _ _ h; exact h
   | cons c r ih =>
     intro k x y hl hx hy
     subst hy
     have hk : k ≤ 3 := by simp only [List.length_cons] at hl; omega
     have hc := c.toNat_lt
     have h256 : 2 ^ (8 * k) * 256 = 2 ^ (8 * (k + 1)) := by rw [show 8 * (k + 1) = 8 * k + 8 from by omega, Nat.pow_add]
     have hle : 2 ^ (8 * (k + 1)) ≤ 2 ^ 32 := Nat.pow_le_pow_right (by decide) (by omega)
     have hs : (x <<< 8).toNat = x.toNat * 256 := by
       rw [BitVec.toNat_shiftLeft, Nat.shiftLeft_eq]; exact Nat.mod_eq_of_lt (by omega)
     have e1 : W6 x <<< 8 = W6 (x <<< 8) := by
       apply BitVec.eq_of_toNat_eq
       rw [eP, hs, BitVec.toNat_shiftLeft, eP, Nat.shiftLeft_eq]; exact Nat.mod_eq_of_lt (by omega)
     have e2 : BitVec.ofNat 64 c.toNat = W6 (BitVec.ofNat 32 c.toNat) := by
       apply BitVec.eq_of_toNat_eq
       rw [eP, BitVec.toNat_ofNat, BitVec.toNat_ofNat, Nat.mod_eq_of_lt (by omega), Nat.mod_eq_of_lt (by omega)]
     refine ih (k + 1) ((x <<< 8) ||| BitVec.ofNat 32 c.toNat) ((W6 x <<< 8) ||| BitVec.ofNat 64 c.toNat) (by simp only [List.length_cons] at hl; omega) ?_ (by rw [e1, e2, sw_or])
     rw [BitVec.toNat_or, hs, BitVec.toNat_ofNat, Nat.mod_eq_of_lt (by omega)]
     have hp : 1 ≤ 2 ^ (8 * k) := Nat.one_le_two_pow
     exact Nat.or_lt_two_pow (by omega) (by omega)
 exact key b 0 0 0 (by omega) (by decide) rfl
end Go.Sha
namespace Go.Eng
open Go Go.IntWalk Go.Sha
section
variable {P : Program} {n : NN} {f : Fr} {w : World} {ty : TypeId}
theorem fO {t u : TypeId} {x y : Operand} {a b : BitVec 32} (hx : f.ev x = some (.int .u32 (a.toNat : Int))) (hy : f.ev y = some (.int .u32 (b.toNat : Int))) : Gives P n f w (.binOp .xor t x y u) ty (.int .u32 ((a ^^^ b).toNat : Int)) w :=
 aw (iz hx hy) (by rw [xor32])
theorem gc_or {t u : TypeId} {x y : Operand} {a b : BitVec 32} (hx : f.ev x = some (.int .u32 (a.toNat : Int))) (hy : f.ev y = some (.int .u32 (b.toNat : Int))) : Gives P n f w (.binOp .or t x y u) ty (.int .u32 ((a ||| b).toNat : Int)) w :=
 aw (j4 hx hy) (by rw [or32])
theorem gl {t u : TypeId} {x y : Operand} {a b : BitVec 32} (hx : f.ev x = some (.int .u32 (a.toNat : Int))) (hy : f.ev y = some (.int .u32 (b.toNat : Int))) : Gives P n f w (.binOp .and t x y u) ty (.int .u32 ((a &&& b).toNat : Int)) w :=
 aw (ei hx hy) (by rw [and32])
theorem cr {t u : TypeId} {x y : Operand} {a b : BitVec 32} (hx : f.ev x = some (.int .u32 (a.toNat : Int))) (hy : f.ev y = some (.int .u32 (b.toNat : Int))) : Gives P n f w (.binOp .add t x y u) ty (.int .u32 ((a + b).toNat : Int)) w :=
 aw (bk hx hy) (by rw [add32])
theorem lS {k' : IntKind} {t u : TypeId} {x y : Operand} {a : BitVec 32} {i : Int} (r : Nat) (hx : f.ev x = some (.int .u32 (a.toNat : Int))) (hy : f.ev y = some (.int k' i)) (hi : i = (r : Int)) (h : r ≤ 32) : Gives P n f w (.binOp .shr t x y u) ty (.int .u32 ((a >>> r).toNat : Int)) w := by
 subst hi
 exact aw (ez hx hy ⟨by omega, by simp only [IntKind.bits]; omega⟩) (by rw [Int.toNat_natCast, shr32])
theorem lT {k' : IntKind} {t u : TypeId} {x y : Operand} {a : BitVec 32} {i : Int} (r : Nat) (hx : f.ev x = some (.int .u32 (a.toNat : Int))) (hy : f.ev y = some (.int k' i)) (hi : i = (r : Int)) (h : r ≤ 32) : Gives P n f w (.binOp .shl t x y u) ty (.int .u32 ((a <<< r).toNat : Int)) w := by
 subst hi
 exact aw (cz hx hy ⟨by omega, by simp only [IntKind.bits]; omega⟩) (by rw [Int.toNat_natCast, shl32])
theorem gc_com {t : TypeId} {x : Operand} {a : BitVec 32} (hx : f.ev x = some (.int .u32 (a.toNat : Int))) : Gives P n f w (.unOp .xor t x) ty (.int .u32 ((~~~a).toNat : Int)) w := by
 intro a' ha dst pos aft g
 have h : bits .xor .u32 IntKind.u32.max (a.toNat : Int) = ((~~~a).toNat : Int) := com32 a
 have h2 : (Op.unary .xor (.int .u32 (a.toNat : Int))).run P w = .ok (.int .u32 ((~~~a).toNat : Int)) w := by
   rw [← h]; rfl
 simp [execOp, ha.ev hx, h2]
theorem gc_cv {s t : TypeId} {x : Operand} {i : Int} (c : UInt8) (hs : (P.underlying s).isSome = true) (ht : P.underlying t = some (.int .u32)) (hx : f.ev x = some (.int .u8 i)) (hi : i = (c.toNat : Int)) : Gives P n f w (.convert s t x) ty (.int .u32 ((BitVec.ofNat 32 c.toNat).toNat : Int)) w := by
 subst hi
 refine aw (dY hs ht hx) ?_
 rw [← byt32, fT, Int.emod_eq_of_lt (by omega) (by have := c.toNat_lt; omega)]
theorem d_appZ0 {t tn e : TypeId} {x y : Operand} {lo m : Nat} {v : Value} {xs : List UInt8} {k kn : IntKind} {i : Int} (ht : P.underlying t = some (.slice e)) (htn : P.underlying tn = some (.int kn)) (he : Ty P e [.int .u8 0] 1 1)
   (hx : f.ev x = some v) (ho : Own w lo e 1 v m (bv xs)) (hy : f.ev y = some (.int k i)) (h0 : i = 0) :
   Does P n f w (.call { callee := .builtin .append, args := #[x, y], argTypes := #[t, tn] }) ty (fun v' w' => v' = v ∧ Keep [] w w') := by
 subst h0
 intro a ha dst pos aft g K Q hK
 obtain ⟨ti, z, hi, hz, hzc, hsz, hby⟩ := he.parts
 obtain ⟨A, c, rfl, hroom, _⟩ := ho.rd
 have hw : IntKind.i64.wrap (0 : Int) = 0 := by decide
 have hr : (execOp a.eval ⟨dst, .call { callee := .builtin .append, args := #[x, y], argTypes := #[t, tn] }, ty, pos, aft, g⟩).run P w = .ok (.value (.slice A m c)) w := by
   simp [execOp, resolve, invoke, builtin, ha.ev hx, ha.ev hy, Builtin.append_, run_underlying ht, run_underlying htn, sizeOf, typeInfo, zeroValue, hi, hz, asInt, asIntOf, hw, hroom, Nat.add_zero]
   cases A <;> rfl
 unfold Oper.wp
 rw [hr]
 exact hK _ _ ⟨rfl, Keep.refl _ _⟩
end
end Go.Eng
namespace Go.Eng
open Go Go.ChangeShapes Go.WideShapes Go.ChangeAt Go.RowKit
section
variable {H : Type} {enc : TypeId × Value → H} {P : Program} {w : World} {base : Nat} {held : Bool}
def Small (P : Program) (t : TypeId) (d : DataW H) : Prop := ∀ n ∈ d.weights P t, n ≤ reachBytes
theorem fF {ts : List TypeId} {ds : List (DataW H)} (h : (DataW.weightsEach P ts ds).all (· ≤ reachBytes) = true) {j : Nat} {t : TypeId} {d : DataW H} (ht : ts[j]? = some t) (hd : ds[j]? = some d) : Small P t d := by
  intro n hn
  have := List.all_eq_true.1 h n (DataW.weights_mem_each ht hd n hn)
  simpa using this
theorem ie {t : TypeId} {fs : Array Field} {parts : List (DataW H)} (hu : P.underlying t = some (.struct fs)) (h : Small P t (.agg parts)) {i : Nat} {f : Field} {d : DataW H} (hf : fs[i]? = some f) (hd : parts[i]? = some d) : Small P f.type d := by
 intro n hn
 refine h n ?_
 simp only [DataW.weights, hu]
 exact DataW.weights_mem_each (j := i) (by simp [hf]) hd n hn
theorem kG {t e : TypeId} {elems spare : List (DataW H)} (hu : P.underlying t = some (.slice e)) (h : Small P t (.slice elems spare)) : (elems.length + spare.length) * P.bytesOf e ≤ reachBytes := by
 refine h _ ?_
 simp [DataW.weights, hu]
theorem ce {t e : TypeId} {fuel : Nat} {cs : List Value} {y : DataW H × List MemPlace} (ht : P.underlying t = some (.slice e)) (he : P.underlying e = some (.int .u8)) (hc : P.cellsOf e = 1) (hb : P.bytesOf e = 1)
   (h : DataW.trod enc P w base (fun _ => true) held fuel t cs = some y) (hs : Small P t y.1) : ∃ v xs, cs = [v] ∧ RdB w v xs ∧ xs.length ≤ 140737488351232 := by
 rcases open_ints ht he hc h with ⟨rfl, rfl⟩ | ⟨a, len, cap, zs, rfl, _, hl, hm, hz, hy, hcell, hwz⟩
 · exact ⟨_, [], rfl, Rd.nil _ _, by decide⟩
 · simp only [if_true] at hz
   have hr : reachBytes ≤ 140737488351232 := by decide
   rw [hy] at hs
   have h9 := kG ht hs
   rw [hb] at h9
   simp only [lits, List.length_map, List.length_take, List.length_drop] at h9
   have hbv : bv ((zs.take len).map fun n => UInt8.ofNat n.toNat) = (zs.take len).map fun n => Value.int .u8 n := by
     simp only [bv, List.map_map]
     apply List.map_congr_left
     intro n hn
     have h1 := hwz n (List.mem_of_mem_take hn)
     have e1 : IntKind.u8.min = 0 := by decide
     have e2 : IntKind.u8.max = 255 := by decide
     simp only [Lit.wf, e1, e2, Bool.and_eq_true, decide_eq_true_eq] at h1
     simp only [Function.comp, UInt8.toNat_ofNat']
     congr 1; omega
   refine ⟨_, (zs.take len).map fun n => UInt8.ofNat n.toNat, rfl, ⟨some a, cap, ?_, ?_, hm, by simp, (fun h => by cases h), ?_⟩, by simp only [List.length_map, List.length_take]; omega⟩
   · congr 1; simp only [List.length_map, List.length_take]; omega
   · simp only [List.length_map, List.length_take]; omega
   · intro a' ha
     cases ha
     rw [hbv]
     intro j u hj
     rw [List.getElem?_map, List.getElem?_take] at hj
     by_cases hjl : j < len
     · rw [if_pos hjl] at hj
       have hjz : j < zs.length := by omega
       rw [List.getElem?_eq_getElem hjz] at hj
       simp only [Option.map_some, Option.some.injEq] at hj
       rw [hcell j hjz, ← hj, List.getD_eq_getElem?_getD, List.getElem?_eq_getElem hjz]; rfl
     · rw [if_neg hjl] at hj; cases hj
theorem eq {t : TypeId} {k : IntKind} {fuel : Nat} {cs : List Value} {y : DataW H × List MemPlace} (ht : P.underlying t = some (.int k))
   (h : DataW.trod enc P w base (fun _ => true) held fuel t cs = some y) : ∃ n, cs = [.int k n] ∧ (Lit.int k n).wf = true := by
 obtain ⟨m, h1, _, h3⟩ := DataW.trod_int ht h
 exact ⟨m, h1, h3⟩
theorem gA {t : TypeId} {fs : Array Field} {fuel : Nat} {cs : List Value} {y : DataW H × List MemPlace} (ht : P.underlying t = some (.struct fs)) (h : DataW.trod enc P w base (fun _ => true) held fuel t cs = some y) (hs : Small P t y.1) :
    cs.length = P.cellsOf t ∧ ∃ n, ∀ (i : Nat) (f : Field), fs[i]? = some f → ∃ z : DataW H × List MemPlace, DataW.trod enc P w base (fun _ => true) held n f.type ((cs.drop f.offset).take (P.cellsOf f.type)) = some z ∧ Small P f.type z.1 := by
  obtain ⟨xs, n, _, hy, hl, hlen, hf⟩ := DataW.trod_struct ht h
  refine ⟨hl, n, fun i f hi => ?_⟩
  have hlt : i < xs.length := by
    rw [hlen]; exact (Array.getElem?_eq_some_iff.1 hi).1
  refine ⟨xs[i], by rw [hf i f hi, List.getElem?_eq_getElem hlt], ?_⟩
  rw [hy] at hs
  exact ie ht hs hi (by simp [List.getElem?_eq_getElem hlt])
theorem eZ {t : TypeId} {v : Value} {d : DataW H} {ps : List MemPlace} {sp : Nat → Bool} (h : DataW.Trod enc P w base sp held t v d ps) : ∀ x ∈ ps, x.block < w.heap.size := by
 obtain ⟨m, hm⟩ := h; exact DataW.trod_lt m _ _ _ hm
end
end Go.Eng
namespace Go.Proofs.YtjfmmoonpdifcaaDoor.W
open Go Go.Eng Go.Byt
open Go.Sha
abbrev OwnW (w : World) (lo : Nat) (v : Value) (l : List (BitVec 64)) : Prop := Own w lo 100 1 v l.length (wc l)
theorem cS (z1 z2 z3 z4 z5 z6 : Value) (x : BitVec 64) (y : BitVec 32) (h : x.setWidth 32 = y) (w : World) : Rets Tryd.prog 85 [.agg [.int .i64 32, z1, z2, z3, z4, z5, z6].toArray, .int .u64 ((x).toNat : Int)] w (fun v w' => v = .int .u64 ((W6 y).toNat : Int) ∧ Keep [] w w') := by
 have hB : Keep [] w w := Keep.refl _ _
 refine ad Tryd.func85 rfl (by decide) Tryd.ntmps85 rfl (fun fin _ hfin => ?_)
 refine aY (aX (ah (bz (cs := [.int .i64 32, z1, z2, z3, z4, z5, z6]) rfl rfl) rfl ?_))
 rintro _ w1 ⟨b1, rfl, eb1, hb1, k1, z1⟩
 replace hB := hB.trans k1
 clear eb1 z1
 refine oga rfl rfl (aZ (aY (aY (aX (a4 (aj 0 aQ rfl bJ (by decide) rfl rfl) rfl ?_)))))
 refine a4 (ac bZ rfl hb1 rfl) rfl ?_
 refine a4 (bF rfl rfl) rfl ?_
 refine aZ (bj rfl (by decide) ?_)
 refine aY (aX (ogm rfl rfl (a4 (aw (v' := .int .u64 ((W6 (x.setWidth 32)).toNat : Int)) (fq (b := 4294967295#64) rfl rfl) (by rw [msk])) rfl ?_)))
 refine oga rfl rfl (aZ (af hfin Tryd.results85 rfl ?_))
 exact ⟨by rw [h], hB⟩
theorem eQ (z1 z2 z3 z4 z5 z6 : Value) (x : BitVec 32) (r : Nat) (hr : r ≤ 32) (w : World) : Rets Tryd.prog 92 [.agg [.int .i64 32, z1, z2, z3, z4, z5, z6].toArray, .int .u64 ((W6 x).toNat : Int), .int .i64 (r : Int)] w (fun v w' => v = .int .u64 ((W6 (tn x r)).toNat : Int) ∧ Keep [] w w') := by
 have hB : Keep [] w w := Keep.refl _ _
 refine ad Tryd.func92 rfl (by decide) Tryd.ntmps92 rfl (fun fin _ hfin => ?_)
 refine aY (aX (ah (bz (cs := [.int .i64 32, z1, z2, z3, z4, z5, z6]) rfl rfl) rfl ?_))
 rintro _ w1 ⟨b1, rfl, eb1, hb1, k1, z1⟩
 have ge_b1 : w.heap.size ≤ b1 := by have := hB.size; omega
 replace hB := hB.trans k1
 clear eb1 z1
 refine oga rfl rfl (aZ (aY (aX (a4 (an (cs' := [_, _, _, _, _, _, _]) df dH rfl hb1 rfl rfl) rfl ?_))))
 refine ogm rfl rfl (ogm rfl rfl (a4 (eh (by rw [aK]; rfl) aP rfl (by omega)) rfl ?_))
 refine a4 (dm r rfl rfl rfl (by omega)) rfl ?_
 refine ogm rfl rfl (a4 (aj 0 aQ rfl bJ (by decide) rfl rfl) rfl ?_)
 refine a4 (ac bZ rfl hb1 rfl) rfl ?_
 refine ogm rfl rfl (a4 (cy rfl rfl (by omega)) rfl ?_)
 refine a4 (eh (by rw [aK]; rfl) aP rfl (by omega)) rfl ?_
 refine a4 (lU (32 - r) rfl rfl (by omega) (by omega)) rfl ?_
 refine a4 (gb_or rfl rfl) rfl ?_
 refine ah (a7 (vs := [_, _]) rfl (cS _ _ _ _ _ _ _ _ (sw_rot' x r) _)) rfl ?_
 rintro _ w2 ⟨rfl, k2⟩
 replace hB := hB.trans k2
 refine oga rfl rfl (aZ (ab [(6, _)] ⟨rfl, trivial⟩ ?_))
 refine af hfin Tryd.results92 rfl ?_
 exact ⟨rfl, hB⟩
theorem g9 (z1 z2 z3 z4 z5 z6 : Value) (x : BitVec 32) (v : Value) (a b c : Nat) (ha : a ≤ 32) (hb : b ≤ 32) (hc : c ≤ 32) (w : World) (hv : Rd w 1 v 3 [.int .i64 (a : Int), .int .i64 (b : Int), .int .i64 (c : Int)]) : Rets Tryd.prog 91 [.agg [.int .i64 32, z1, z2, z3, z4, z5, z6].toArray, .int .u64 ((W6 x).toNat : Int), v] w (fun v w' => v = .int .u64 ((W6 (lo (a, b, c) x)).toNat : Int) ∧ Keep [] w w') := by
 have hB : Keep [] w w := Keep.refl _ _
 refine ad Tryd.func91 rfl (by decide) Tryd.ntmps91 rfl (fun fin _ hfin => ?_)
 refine aY (aX (ah (bz (cs := [.int .i64 32, z1, z2, z3, z4, z5, z6]) rfl rfl) rfl ?_))
 rintro _ w1 ⟨b1, rfl, eb1, hb1, k1, z1⟩
 have ge_b1 : w.heap.size ≤ b1 := by have := hB.size; omega
 replace hB := hB.trans k1
 clear eb1 z1
 refine oga rfl rfl (aZ (aY (cH 20 [0, 1, 2, 3, 4, 6, 7, 8, 9, 10, 13, 14, 15, 16, 17, 18, 5, 11, 12, 19] [5, 11] [] mixed [(3, _), (1, _), (2, _), (6, _)] ⟨rfl, rfl, rfl, rfl, trivial⟩ (by decide +kernel) rfl (fun w2 k2 => ?_))))
 replace hb1 := hb1.lh k2
 replace hB := hB.trans k2
 refine aq 3 rfl rfl rfl rfl (fun W' kk => an (cs' := [_, _, _, _, _, _, _]) df dH rfl (Bk.lh hb1 kk) rfl rfl) ?_
 refine bC 1 rfl rfl rfl rfl rfl ?_
 refine bC 2 rfl rfl rfl rfl rfl ?_
 refine aq 9 rfl rfl rfl rfl (fun W' kk => bR aT bJ rfl (by first | exact Rd.lh ‹_› kk | exact Rd.lh (Own.rd ‹_›) kk | exact Rd.lh (Rd.lh ‹_› hB) kk | exact Rd.lh (Own.rd (Own.lh ‹_› hB)) kk) rfl (by omega)) ?_
 refine aq 10 rfl rfl rfl rfl (fun W' kk => dN bZ rfl (by first | exact Rd.lh ‹_› kk | exact Rd.lh (Own.rd ‹_›) kk | exact Rd.lh (Rd.lh ‹_› hB) kk | exact Rd.lh (Own.rd (Own.lh ‹_› hB)) kk) rfl) ?_
 refine aq 3 rfl rfl rfl rfl (fun W' kk => an (cs' := [_, _, _, _, _, _, _]) df dH rfl (Bk.lh hb1 kk) rfl rfl) ?_
 refine bC 1 rfl rfl rfl rfl rfl ?_
 refine bC 2 rfl rfl rfl rfl rfl ?_
 refine aq 15 rfl rfl rfl rfl (fun W' kk => bR aT bJ rfl (by first | exact Rd.lh ‹_› kk | exact Rd.lh (Own.rd ‹_›) kk | exact Rd.lh (Rd.lh ‹_› hB) kk | exact Rd.lh (Own.rd (Own.lh ‹_› hB)) kk) rfl (by omega)) ?_
 refine aq 16 rfl rfl rfl rfl (fun W' kk => dN bZ rfl (by first | exact Rd.lh ‹_› kk | exact Rd.lh (Own.rd ‹_›) kk | exact Rd.lh (Rd.lh ‹_› hB) kk | exact Rd.lh (Own.rd (Own.lh ‹_› hB)) kk) rfl) ?_
 refine bC 1 rfl rfl rfl rfl rfl ?_
 refine bC 2 rfl rfl rfl rfl rfl ?_
 refine aq 21 rfl rfl rfl rfl (fun W' kk => bR aT bJ rfl (by first | exact Rd.lh ‹_› kk | exact Rd.lh (Own.rd ‹_›) kk | exact Rd.lh (Rd.lh ‹_› hB) kk | exact Rd.lh (Own.rd (Own.lh ‹_› hB)) kk) rfl (by omega)) ?_
 refine aq 22 rfl rfl rfl rfl (fun W' kk => dN bZ rfl (by first | exact Rd.lh ‹_› kk | exact Rd.lh (Own.rd ‹_›) kk | exact Rd.lh (Rd.lh ‹_› hB) kk | exact Rd.lh (Own.rd (Own.lh ‹_› hB)) kk) rfl) ?_
 refine aq 23 rfl rfl rfl rfl (fun W' kk => eh (by rw [aK]; rfl) aP rfl (by omega)) ?_
 refine bb 20 24 rfl rfl rfl rfl rfl (fun W' kk => dm c rfl rfl rfl (by omega)) ?_
 refine dK [(7, _), (8, _), (11, _)] rfl rfl ⟨rfl, rfl, rfl, trivial⟩ rfl (a7 (vs := [_, _, _]) rfl (eQ _ _ _ _ _ _ x a ha _)) ?_
 rintro _ w3 ⟨rfl, k3⟩
 refine ⟨k3, ?_⟩
 replace hB := hB.trans k3
 refine dK [(13, _), (14, _), (17, _)] rfl rfl ⟨rfl, rfl, rfl, trivial⟩ rfl (a7 (vs := [_, _, _]) rfl (eQ _ _ _ _ _ _ x b hb _)) ?_
 rintro _ w4 ⟨rfl, k4⟩
 refine ⟨k4, ?_⟩
 replace hB := hB.trans k4
 refine bb 12 18 rfl rfl rfl rfl rfl (fun W' kk => fP rfl rfl) ?_
 refine bb 19 25 rfl rfl rfl rfl rfl (fun W' kk => fP rfl rfl) ?_
 refine cY ?_
 refine oga rfl rfl (aZ (ab [(6, _)] ⟨rfl, trivial⟩ ?_))
 refine af hfin Tryd.results91 rfl ?_
 exact ⟨congrArg (fun v : BitVec 64 => Value.int .u64 (v.toNat : Int)) (sw_lo (a, b, c) x), hB⟩
theorem fz (z1 z2 z3 z4 z5 z6 : Value) (x : BitVec 32) (v : Value) (a b c : Nat) (ha : a ≤ 32) (hb : b ≤ 32) (hc : c ≤ 32) (w : World) (hv : Rd w 1 v 3 [.int .i64 (a : Int), .int .i64 (b : Int), .int .i64 (c : Int)]) : Rets Tryd.prog 86 [.agg [.int .i64 32, z1, z2, z3, z4, z5, z6].toArray, .int .u64 ((W6 x).toNat : Int), v] w (fun v w' => v = .int .u64 ((W6 (hi (a, b, c) x)).toNat : Int) ∧ Keep [] w w') := by
 have hB : Keep [] w w := Keep.refl _ _
 refine ad Tryd.func86 rfl (by decide) Tryd.ntmps86 rfl (fun fin _ hfin => ?_)
 refine aY (aX (ah (bz (cs := [.int .i64 32, z1, z2, z3, z4, z5, z6]) rfl rfl) rfl ?_))
 rintro _ w1 ⟨b1, rfl, eb1, hb1, k1, z1⟩
 have ge_b1 : w.heap.size ≤ b1 := by have := hB.size; omega
 replace hB := hB.trans k1
 clear eb1 z1
 refine oga rfl rfl (aZ (aY (cH 20 [0, 1, 2, 3, 4, 6, 7, 8, 9, 10, 13, 14, 15, 16, 17, 5, 11, 12, 18, 19] [5, 11, 18] [] mixed [(3, _), (1, _), (2, _), (6, _)] ⟨rfl, rfl, rfl, rfl, trivial⟩ (by decide +kernel) rfl (fun w2 k2 => ?_))))
 replace hb1 := hb1.lh k2
 replace hB := hB.trans k2
 refine aq 3 rfl rfl rfl rfl (fun W' kk => an (cs' := [_, _, _, _, _, _, _]) df dH rfl (Bk.lh hb1 kk) rfl rfl) ?_
 refine bC 1 rfl rfl rfl rfl rfl ?_
 refine bC 2 rfl rfl rfl rfl rfl ?_
 refine aq 9 rfl rfl rfl rfl (fun W' kk => bR aT bJ rfl (by first | exact Rd.lh ‹_› kk | exact Rd.lh (Own.rd ‹_›) kk | exact Rd.lh (Rd.lh ‹_› hB) kk | exact Rd.lh (Own.rd (Own.lh ‹_› hB)) kk) rfl (by omega)) ?_
 refine aq 10 rfl rfl rfl rfl (fun W' kk => dN bZ rfl (by first | exact Rd.lh ‹_› kk | exact Rd.lh (Own.rd ‹_›) kk | exact Rd.lh (Rd.lh ‹_› hB) kk | exact Rd.lh (Own.rd (Own.lh ‹_› hB)) kk) rfl) ?_
 refine aq 3 rfl rfl rfl rfl (fun W' kk => an (cs' := [_, _, _, _, _, _, _]) df dH rfl (Bk.lh hb1 kk) rfl rfl) ?_
 refine bC 1 rfl rfl rfl rfl rfl ?_
 refine bC 2 rfl rfl rfl rfl rfl ?_
 refine aq 15 rfl rfl rfl rfl (fun W' kk => bR aT bJ rfl (by first | exact Rd.lh ‹_› kk | exact Rd.lh (Own.rd ‹_›) kk | exact Rd.lh (Rd.lh ‹_› hB) kk | exact Rd.lh (Own.rd (Own.lh ‹_› hB)) kk) rfl (by omega)) ?_
 refine aq 16 rfl rfl rfl rfl (fun W' kk => dN bZ rfl (by first | exact Rd.lh ‹_› kk | exact Rd.lh (Own.rd ‹_›) kk | exact Rd.lh (Rd.lh ‹_› hB) kk | exact Rd.lh (Own.rd (Own.lh ‹_› hB)) kk) rfl) ?_
 refine aq 3 rfl rfl rfl rfl (fun W' kk => an (cs' := [_, _, _, _, _, _, _]) df dH rfl (Bk.lh hb1 kk) rfl rfl) ?_
 refine bC 1 rfl rfl rfl rfl rfl ?_
 refine bC 2 rfl rfl rfl rfl rfl ?_
 refine aq 22 rfl rfl rfl rfl (fun W' kk => bR aT bJ rfl (by first | exact Rd.lh ‹_› kk | exact Rd.lh (Own.rd ‹_›) kk | exact Rd.lh (Rd.lh ‹_› hB) kk | exact Rd.lh (Own.rd (Own.lh ‹_› hB)) kk) rfl (by omega)) ?_
 refine aq 23 rfl rfl rfl rfl (fun W' kk => dN bZ rfl (by first | exact Rd.lh ‹_› kk | exact Rd.lh (Own.rd ‹_›) kk | exact Rd.lh (Rd.lh ‹_› hB) kk | exact Rd.lh (Own.rd (Own.lh ‹_› hB)) kk) rfl) ?_
 refine dK [(7, _), (8, _), (11, _)] rfl rfl ⟨rfl, rfl, rfl, trivial⟩ rfl (a7 (vs := [_, _, _]) rfl (eQ _ _ _ _ _ _ x a ha _)) ?_
 rintro _ w3 ⟨rfl, k3⟩
 refine ⟨k3, ?_⟩
 replace hB := hB.trans k3
 refine dK [(13, _), (14, _), (17, _)] rfl rfl ⟨rfl, rfl, rfl, trivial⟩ rfl (a7 (vs := [_, _, _]) rfl (eQ _ _ _ _ _ _ x b hb _)) ?_
 rintro _ w4 ⟨rfl, k4⟩
 refine ⟨k4, ?_⟩
 replace hB := hB.trans k4
 refine bb 12 18 rfl rfl rfl rfl rfl (fun W' kk => fP rfl rfl) ?_
 refine dK [(20, _), (21, _), (24, _)] rfl rfl ⟨rfl, rfl, rfl, trivial⟩ rfl (a7 (vs := [_, _, _]) rfl (eQ _ _ _ _ _ _ x c hc _)) ?_
 rintro _ w5 ⟨rfl, k5⟩
 refine ⟨k5, ?_⟩
 replace hB := hB.trans k5
 refine bb 19 25 rfl rfl rfl rfl rfl (fun W' kk => fP rfl rfl) ?_
 refine cY ?_
 refine oga rfl rfl (aZ (ab [(6, _)] ⟨rfl, trivial⟩ ?_))
 refine af hfin Tryd.results86 rfl ?_
 exact ⟨congrArg (fun v : BitVec 64 => Value.int .u64 (v.toNat : Int)) (sw_hi (a, b, c) x), hB⟩
theorem iP (l0 l1 u0 u1 : Value) (v : Value) (bs : List UInt8) (w : World) (hl0 : Rd w 1 l0 3 [.int .i64 7, .int .i64 18, .int .i64 3]) (hl1 : Rd w 1 l1 3 [.int .i64 17, .int .i64 19, .int .i64 10]) (hu0 : Rd w 1 u0 3 [.int .i64 2, .int .i64 13, .int .i64 22]) (hu1 : Rd w 1 u1 3 [.int .i64 6, .int .i64 11, .int .i64 25]) (hv : RdB w v bs) (hl : bs.length = 64) : Rets Tryd.prog 84 [.agg [.int .i64 32, .int .i64 64, .int .i64 64, l0, l1, u0, u1].toArray, v] w (fun r w' => OwnW w' w.heap.size r (wm (sch bf bs 48)) ∧ Keep [] w w') := by
  have hB : Keep [] w w := Keep.refl _ _
  refine ad Tryd.func84 rfl (by decide) Tryd.ntmps84 rfl (fun fin _ hfin => ?_)
  refine aY ?_
  refine aX ?_
  refine ah (bz (cs := [.int .i64 32, .int .i64 64, .int .i64 64, l0, l1, u0, u1]) rfl rfl) rfl ?_
  rintro _ w1 ⟨b1, rfl, eb1, hb1, k1, z1⟩
  have ge_b1 : w.heap.size ≤ b1 := by have := hB.size; omega
  replace hB := hB.trans k1
  clear eb1 z1
  refine oga rfl rfl ?_
  refine aZ ?_
  refine aY ?_
  refine aX ?_
  refine a4 (aj 0 aQ rfl bJ (by decide) rfl rfl) rfl ?_
  refine a4 (ac bZ rfl hb1 rfl) rfl ?_
  refine a4 (ak (j := 4) (iE rfl rfl (by decide)) (by decide)) rfl ?_
  refine oga rfl rfl ?_
  refine aZ ?_
  refine aY ?_
  refine aX ?_
  refine oga rfl rfl ?_
  refine aZ ?_
  refine aY ?_
  refine aY ?_
  refine aX ?_
  refine oga rfl rfl ?_
  refine aZ ?_
  refine ag ?_
  refine bT (Γ := Nat × Value) (fun ⟨i, o⟩ => [(1, v), (2, .pointer (some ⟨b1, 0, none⟩)), (5, .int .i64 4), (6, o), (7, .int .i64 (i : Int))]) (fun ⟨i, o⟩ W => i ≤ 16 ∧ OwnW W w.heap.size o (wm ((List.range i).map (wrd 32 bs))) ∧ (∀ x, x ∈ vblk o → x ≠ b1) ∧ Bk W b1 86 [.int .i64 32, .int .i64 64, .int .i64 64, l0, l1, u0, u1] ∧ Keep [] w W) (fun ⟨i, o⟩ => 16 - i) ⟨0, .slice none 0 0⟩ ⟨rfl, rfl, rfl, rfl, rfl, trivial⟩ (⟨by omega, a9 _ _ _ _, fun x hx => (by cases hx), hb1, hB⟩) ?_
  rintro ⟨i, o⟩ w2 ⟨hi0, ow, hno, hbz, hB⟩
  refine ab [(1, v), (2, .pointer (some ⟨b1, 0, none⟩)), (5, .int .i64 4), (6, o), (7, .int .i64 (i : Int))] ⟨rfl, rfl, rfl, rfl, rfl, trivial⟩ ?_
  have hwl : (wm ((List.range i).map (wrd 32 bs))).length = i := by simp [wm]
  have hcl : ((bs.drop (4 * i)).take 4).length = 4 ∨ 16 ≤ i := by rw [List.length_take, List.length_drop]; omega
  refine aY ?_
  refine aY ?_
  refine aX ?_
  refine ogm rfl rfl ?_
  refine a4 (bO rfl rfl) rfl ?_
  refine aZ ?_
  refine ar rfl (fun hc1 => ?_) (fun hc1 => ?_)
  · -- yes
    refine a8 ?_
    refine aY ?_
    refine ag ?_
    refine aY ?_
    refine aX ?_
    refine a4 (aw (v' := .int .u64 ((wrdF (n := 64) 0 (((bs.drop (4 * i)).take 4).take 0)).toNat : Int)) (ft rfl) (show Value.int .u64 0 = _ from by rw [List.take_zero]; rfl)) rfl ?_
    refine aZ ?_
    refine aY ?_
    refine aY ?_
    refine aX ?_
    refine oga rfl rfl ?_
    refine aZ ?_
    refine ag ?_
    refine bT (Γ := Nat) (fun k => [(1, v), (2, .pointer (some ⟨b1, 0, none⟩)), (5, .int .i64 4), (6, o), (7, .int .i64 (i : Int)), (8, .int .u64 ((wrdF (n := 64) 0 (((bs.drop (4 * i)).take 4).take k)).toNat : Int)), (9, .int .i64 (k : Int))]) (fun k W => k ≤ 4 ∧ OwnW W w.heap.size o (wm ((List.range i).map (wrd 32 bs))) ∧ Bk W b1 86 [.int .i64 32, .int .i64 64, .int .i64 64, l0, l1, u0, u1] ∧ Keep [] w W) (fun k => 4 - k) 0 ⟨rfl, rfl, rfl, rfl, rfl, rfl, rfl, trivial⟩ (⟨by omega, ow, hbz, hB⟩) ?_
    rintro k w3 ⟨hk0, ow, hbz, hB⟩
    refine ab [(1, v), (2, .pointer (some ⟨b1, 0, none⟩)), (5, .int .i64 4), (6, o), (7, .int .i64 (i : Int)), (8, .int .u64 ((wrdF (n := 64) 0 (((bs.drop (4 * i)).take 4).take k)).toNat : Int)), (9, .int .i64 (k : Int))] ⟨rfl, rfl, rfl, rfl, rfl, rfl, rfl, trivial⟩ ?_
    refine aY ?_
    refine aY ?_
    refine aX ?_
    refine ogm rfl rfl ?_
    refine ogm rfl rfl ?_
    refine a4 (bO rfl rfl) rfl ?_
    refine aZ ?_
    refine ar rfl (fun hc2 => ?_) (fun hc2 => ?_)
    · -- yes
      refine a8 ?_
      refine aY ?_
      refine ag ?_
      refine aX ?_
      refine ogm rfl rfl ?_
      refine a4 (lU 8 rfl rfl rfl (by decide)) rfl ?_
      refine ogm rfl rfl ?_
      refine ogm rfl rfl ?_
      refine ogm rfl rfl ?_
      refine a4 (f7 rfl rfl (by omega)) rfl ?_
      refine ogm rfl rfl ?_
      refine a4 (br rfl rfl (by omega)) rfl ?_
      refine a4 (bR aA bu rfl (by first | assumption | exact Own.rd (by assumption) | exact Rd.lh (by assumption) hB | exact Own.rd (Own.lh (by assumption) hB)) rfl (by omega)) rfl ?_
      obtain ⟨c, hc⟩ : ∃ c, ((bs.drop (4 * i)).take 4)[k]? = some c := ⟨_, List.getElem?_eq_getElem (by omega)⟩
      have hgc : gb bs (4 * (i : Int) + (k : Int)) = (c.toNat : Int) := by unfold gb; rw [List.getD_eq_getElem?_getD, show (4 * (i : Int) + (k : Int)).toNat = 4 * i + k from by omega, ← List.getElem?_drop]; rw [List.getElem?_take_of_lt (by omega)] at hc; rw [hc]; rfl
      refine a4 (aw (v' := .int .u8 (c.toNat : Int)) (eK jR rfl (by first | assumption | exact Own.rd (by assumption) | exact Rd.lh (by assumption) hB | exact Own.rd (Own.lh (by assumption) hB)) (by omega)) (by rw [hgc])) rfl ?_
      refine a4 (gb_cv c (by rw [aI]; rfl) aR rfl rfl) rfl ?_
      refine a4 (aw (v' := .int .u64 ((wrdF (n := 64) 0 (((bs.drop (4 * i)).take 4).take (k + 1))).toNat : Int)) (gb_or rfl rfl) (by rw [hD hc])) rfl ?_
      refine oga rfl rfl ?_
      refine aZ ?_
      refine ab [(1, _), (2, _), (5, _), (6, _), (7, _), (8, _), (9, _)] ⟨rfl, rfl, rfl, rfl, rfl, rfl, rfl, trivial⟩ ?_
      refine bg ?_
      refine aX ?_
      refine ogm rfl rfl ?_
      refine a4 (br rfl rfl (by omega)) rfl ?_
      refine oga rfl rfl ?_
      refine aZ ?_
      refine bd (Γ := Nat) (k + 1) ⟨rfl, rfl, rfl, rfl, rfl, rfl, rfl, trivial⟩ (by (try dsimp only); omega) (⟨by omega, ow, hbz, hB⟩)
    · -- no
      refine bN rfl ?_
      refine aX ?_
      refine ogm rfl rfl ?_
      refine ogm rfl rfl ?_
      refine ah (dA (m := 1) (xs := [.tmp 36]) (vs := [_]) aC bE (by decide) rfl rfl rfl (by first | (simp; done) | (intro v hv; rw [List.mem_singleton] at hv; subst hv; rfl)) (by decide)) rfl ?_
      rintro v1 w4 ⟨o1, nn1, lb1, k2, z2⟩
      have gl_o1 := hB.size
      replace ow := ow.lh k2
      replace hbz := hbz.lh k2
      replace hB := hB.trans k2
      have lt_b1_o2 := hbz.lt
      refine ah (i1 (ys := [wrdF (n := 64) 0 (((bs.drop (4 * i)).take 4).take k)]) aC bE rfl rfl ow rfl o1.rd (by simp only [List.length_singleton] at *; omega) (by have := hB.size; omega)) rfl ?_
      rintro v2 w5 ⟨o2, k3, lb2⟩
      replace hB := hB.new k3 (fun x hx => .inl (ow.blk x hx).1)
      replace hbz := hbz.keep k3 (fun hm => hno _ hm rfl)
      have sb_b1_o2 := fun x hx => (lb2 x hx).elim (hno x) (fun h => (show x ≠ b1 from by omega))
      replace o2 : OwnW w5 w.heap.size v2 ((wm ((List.range i).map (wrd 32 bs))) ++ [wrdF (n := 64) 0 (((bs.drop (4 * i)).take 4).take k)]) := by unfold OwnW; rw [List.length_append]; exact o2
      refine oga rfl rfl ?_
      refine aZ ?_
      refine bg ?_
      refine aX ?_
      refine ogm rfl rfl ?_
      refine a4 (br rfl rfl (by omega)) rfl ?_
      refine oga rfl rfl ?_
      refine aZ ?_
      refine ab [(1, _), (2, _), (5, _), (6, _), (7, _)] ⟨rfl, rfl, rfl, rfl, rfl, trivial⟩ ?_
      obtain rfl : k = 4 := by omega
      rw [List.take_of_length_le (show ((bs.drop (4 * i)).take 4).length ≤ 4 from by omega), sw_wrd _ (show ((bs.drop (4 * i)).take 4).length ≤ 4 from by omega)] at o2
      refine bd (Γ := Nat × Value) ⟨i + 1, v2⟩ ⟨rfl, rfl, rfl, rfl, rfl, trivial⟩ (by (try dsimp only); omega) (⟨by omega, by rw [hC, jK]; exact o2, sb_b1_o2, hbz, hB⟩)
  · -- no
    refine bN rfl ?_
    refine aY ?_
    refine aY ?_
    refine aX ?_
    refine oga rfl rfl ?_
    refine aZ ?_
    refine ag ?_
    obtain rfl : i = 16 := by omega
    refine bT (Γ := Nat × Value) (fun ⟨t, o⟩ => [(2, .pointer (some ⟨b1, 0, none⟩)), (6, o), (10, .int .i64 (t : Int))]) (fun ⟨t, o⟩ W => 16 ≤ t ∧ t ≤ 64 ∧ OwnW W w.heap.size o (wm (sch bf bs (t - 16))) ∧ (∀ x, x ∈ vblk o → x ≠ b1) ∧ Bk W b1 86 [.int .i64 32, .int .i64 64, .int .i64 64, l0, l1, u0, u1] ∧ Keep [] w W) (fun ⟨t, o⟩ => 64 - t) ⟨16, o⟩ ⟨rfl, rfl, rfl, trivial⟩ (⟨by omega, by omega, ow, hno, hbz, hB⟩) ?_
    rintro ⟨t, o⟩ w6 ⟨ht0, ht1, ow, hno, hbz, hB⟩
    refine ab [(2, .pointer (some ⟨b1, 0, none⟩)), (6, o), (10, .int .i64 (t : Int))] ⟨rfl, rfl, rfl, trivial⟩ ?_
    have hsl : (sch bf bs (t - 16)).length = t := by rw [ed]; omega
    have hsm : (wm (sch bf bs (t - 16))).length = t := by rw [dB]; exact hsl
    refine aY ?_
    refine aY ?_
    refine aX ?_
    refine ogm rfl rfl ?_
    refine a4 (aj 2 aQ rfl bJ (by decide) rfl rfl) rfl ?_
    refine a4 (ac bZ rfl hbz rfl) rfl ?_
    refine a4 (bO rfl rfl) rfl ?_
    refine aZ ?_
    refine ar rfl (fun hc3 => ?_) (fun hc3 => ?_)
    · -- yes
      refine a8 ?_
      refine aY ?_
      refine ag ?_
      refine cR 35 [0, 1, 2, 3, 4, 5, 6, 7, 8, 9, 11, 12, 13, 14, 15, 17, 18, 19, 20, 21, 22, 23, 24, 27, 28, 29, 30, 31, 10, 16, 25, 26, 32, 33, 34] [10, 25, 33, 34] [] [] mixed [(6, _), (2, _), (10, _)] ⟨rfl, rfl, rfl, trivial⟩ (by decide +kernel) (by decide) (by decide) ?_ (fun x hx => by cases hx) rfl (fun w7 k4 => ?_)
      · intro q hq; cases hq
      replace ow := ow.lh k4
      replace hbz := hbz.lh k4
      replace hB := hB.trans k4
      refine cM 6 rfl rfl rfl rfl rfl ?_
      refine bY 2 rfl rfl rfl rfl (fun W' kk => an (cs' := [_, _, _, _, _, _, _]) df dH rfl (Bk.lh hbz kk) rfl rfl) ?_
      refine bY 2 rfl rfl rfl rfl (fun W' kk => an (cs' := [_, _, _, _, _, _, _]) df dH rfl (Bk.lh hbz kk) rfl rfl) ?_
      refine cM 6 rfl rfl rfl rfl rfl ?_
      refine cM 10 rfl rfl rfl rfl rfl ?_
      refine bY 49 rfl rfl rfl rfl (fun W' kk => cy rfl rfl (by omega)) ?_
      refine cZ 48 50 rfl rfl rfl rfl rfl (fun W' kk => bR aC bE rfl (ow.lh kk).rd rfl (by omega)) ?_
      refine bY 51 rfl rfl rfl rfl (fun W' kk => aw (v' := .int .u64 ((W6 ((sch bf bs (t - 16)).getD (t - 2) 0)).toNat : Int)) (cE (l := (wm (sch bf bs (t - 16)))) (t - 2) bW rfl (by first | exact Rd.lh (by assumption) kk | exact Rd.lh (Own.rd (by assumption)) kk | exact Rd.lh (Rd.lh (by assumption) hB) kk | exact Rd.lh (Own.rd (Own.lh (by assumption) hB)) kk) (by omega) (by rw [dB]; omega)) (by rw [fg])) ?_
      refine bY 2 rfl rfl rfl rfl (fun W' kk => aj 4 aQ rfl ty84 (by decide) rfl rfl) ?_
      refine bY 53 rfl rfl rfl rfl (fun W' kk => ac sc84 rfl (Bk.lh hbz kk) rfl) ?_
      refine cM 6 rfl rfl rfl rfl rfl ?_
      refine cM 10 rfl rfl rfl rfl rfl ?_
      refine bY 57 rfl rfl rfl rfl (fun W' kk => cy rfl rfl (by omega)) ?_
      refine cZ 56 58 rfl rfl rfl rfl rfl (fun W' kk => bR aC bE rfl (ow.lh kk).rd rfl (by omega)) ?_
      refine bY 59 rfl rfl rfl rfl (fun W' kk => aw (v' := .int .u64 ((W6 ((sch bf bs (t - 16)).getD (t - 7) 0)).toNat : Int)) (cE (l := (wm (sch bf bs (t - 16)))) (t - 7) bW rfl (by first | exact Rd.lh (by assumption) kk | exact Rd.lh (Own.rd (by assumption)) kk | exact Rd.lh (Rd.lh (by assumption) hB) kk | exact Rd.lh (Own.rd (Own.lh (by assumption) hB)) kk) (by omega) (by rw [dB]; omega)) (by rw [fg])) ?_
      refine bY 2 rfl rfl rfl rfl (fun W' kk => an (cs' := [_, _, _, _, _, _, _]) df dH rfl (Bk.lh hbz kk) rfl rfl) ?_
      refine cM 6 rfl rfl rfl rfl rfl ?_
      refine cM 10 rfl rfl rfl rfl rfl ?_
      refine bY 64 rfl rfl rfl rfl (fun W' kk => cy rfl rfl (by omega)) ?_
      refine cZ 63 65 rfl rfl rfl rfl rfl (fun W' kk => bR aC bE rfl (ow.lh kk).rd rfl (by omega)) ?_
      refine bY 66 rfl rfl rfl rfl (fun W' kk => aw (v' := .int .u64 ((W6 ((sch bf bs (t - 16)).getD (t - 15) 0)).toNat : Int)) (cE (l := (wm (sch bf bs (t - 16)))) (t - 15) bW rfl (by first | exact Rd.lh (by assumption) kk | exact Rd.lh (Own.rd (by assumption)) kk | exact Rd.lh (Rd.lh (by assumption) hB) kk | exact Rd.lh (Own.rd (Own.lh (by assumption) hB)) kk) (by omega) (by rw [dB]; omega)) (by rw [fg])) ?_
      refine bY 2 rfl rfl rfl rfl (fun W' kk => aj 3 aQ rfl ty84 (by decide) rfl rfl) ?_
      refine bY 68 rfl rfl rfl rfl (fun W' kk => ac sc84 rfl (Bk.lh hbz kk) rfl) ?_
      refine cM 6 rfl rfl rfl rfl rfl ?_
      refine cM 10 rfl rfl rfl rfl rfl ?_
      refine bY 73 rfl rfl rfl rfl (fun W' kk => cy rfl rfl (by omega)) ?_
      refine cZ 72 74 rfl rfl rfl rfl rfl (fun W' kk => bR aC bE rfl (ow.lh kk).rd rfl (by omega)) ?_
      refine bY 75 rfl rfl rfl rfl (fun W' kk => aw (v' := .int .u64 ((W6 ((sch bf bs (t - 16)).getD (t - 16) 0)).toNat : Int)) (cE (l := (wm (sch bf bs (t - 16)))) (t - 16) bW rfl (by first | exact Rd.lh (by assumption) kk | exact Rd.lh (Own.rd (by assumption)) kk | exact Rd.lh (Rd.lh (by assumption) hB) kk | exact Rd.lh (Own.rd (Own.lh (by assumption) hB)) kk) (by omega) (by rw [dB]; omega)) (by rw [fg])) ?_
      refine ix [(47, _), (52, _), (54, _)] rfl rfl ⟨rfl, rfl, rfl, trivial⟩ rfl (fun w9 k6 => ?_)
      replace ow := ow.lh k6
      replace hbz := hbz.lh k6
      replace hB := hB.trans k6
      refine (a7 (vs := [_, _, _]) rfl (g9 _ _ _ _ _ _ ((sch bf bs (t - 16)).getD (t - 2) 0) _ 17 19 10 (by decide) (by decide) (by decide) _ (hl1.lh hB))).mono ?_
      rintro _ w8 ⟨rfl, k5⟩
      refine ⟨k5, nox, ?_⟩
      replace ow := ow.lh k5
      replace hbz := hbz.lh k5
      replace hB := hB.trans k5
      refine cZ 55 60 rfl rfl rfl rfl rfl (fun W' kk => ct rfl rfl) ?_
      refine ix [(62, _), (67, _), (69, _)] rfl rfl ⟨rfl, rfl, rfl, trivial⟩ rfl (fun w11 k8 => ?_)
      replace ow := ow.lh k8
      replace hbz := hbz.lh k8
      replace hB := hB.trans k8
      refine (a7 (vs := [_, _, _]) rfl (g9 _ _ _ _ _ _ ((sch bf bs (t - 16)).getD (t - 15) 0) _ 7 18 3 (by decide) (by decide) (by decide) _ (hl0.lh hB))).mono ?_
      rintro _ w10 ⟨rfl, k7⟩
      refine ⟨k7, nox, ?_⟩
      replace ow := ow.lh k7
      replace hbz := hbz.lh k7
      replace hB := hB.trans k7
      refine cZ 61 70 rfl rfl rfl rfl rfl (fun W' kk => ct rfl rfl) ?_
      refine cZ 71 76 rfl rfl rfl rfl rfl (fun W' kk => ct rfl rfl) ?_
      refine ix [(46, _), (77, _)] rfl rfl ⟨rfl, rfl, trivial⟩ rfl (fun w13 k10 => ?_)
      replace ow := ow.lh k10
      replace hbz := hbz.lh k10
      replace hB := hB.trans k10
      refine (a7 (vs := [_, _]) rfl (cS _ _ _ _ _ _ _ (nxt bf (sch bf bs (t - 16)) t) (by (try rw [da _ eO]); simp only [dh, BitVec.setWidth_xor, BitVec.setWidth_and, BitVec.setWidth_not (show 32 ≤ 64 by decide), eE]; rfl) _)).mono ?_
      rintro _ w12 ⟨rfl, k9⟩
      refine ⟨k9, nox, ?_⟩
      replace ow := ow.lh k9
      replace hbz := hbz.lh k9
      replace hB := hB.trans k9
      refine ix [(78, _)] rfl rfl ⟨rfl, trivial⟩ rfl (fun w15 k12 => ?_)
      replace ow := ow.lh k12
      replace hbz := hbz.lh k12
      replace hB := hB.trans k12
      refine (dA (m := 1) (xs := [.tmp 78]) (vs := [_]) aC bE (by decide) rfl rfl rfl (by first | (simp; done) | (intro v hv; rw [List.mem_singleton] at hv; subst hv; rfl)) (by decide)).mono ?_
      rintro v3 w14 ⟨o3, nn2, lb3, k11, z3⟩
      refine ⟨k11, (fun x hx => ⟨.inr (o3.blk x (o3.rd.cblk ▸ hx)).1, (o3.blk x (o3.rd.cblk ▸ hx)).2⟩), ?_⟩
      have gl_o3 := hB.size
      replace ow := ow.lh k11
      replace hbz := hbz.lh k11
      replace hB := hB.trans k11
      refine dc (fun w16 k13 => ?_)
      replace ow := ow.lh k13
      replace hbz := hbz.lh k13
      replace o3 := o3.lh k13
      replace hB := hB.trans k13
      refine cT ?_
      have lt_b1_o4 := hbz.lt
      refine ah (i1 (ys := [W6 (nxt bf (sch bf bs (t - 16)) t)]) aC bE rfl rfl ow rfl o3.rd (by simp only [List.length_singleton] at *; omega) (by have := hB.size; omega)) rfl ?_
      rintro v4 w17 ⟨o4, k14, lb4⟩
      replace hB := hB.new k14 (fun x hx => .inl (ow.blk x hx).1)
      replace hbz := hbz.keep k14 (fun hm => hno _ hm rfl)
      have sb_b1_o4 := fun x hx => (lb4 x hx).elim (hno x) (fun h => (show x ≠ b1 from by omega))
      replace o4 : OwnW w17 w.heap.size v4 ((wm (sch bf bs (t - 16))) ++ [W6 (nxt bf (sch bf bs (t - 16)) t)]) := by unfold OwnW; rw [List.length_append]; exact o4
      refine oga rfl rfl ?_
      refine aZ ?_
      refine ab [(6, _), (2, _), (10, _)] ⟨rfl, rfl, rfl, trivial⟩ ?_
      refine bg ?_
      refine aX ?_
      refine ogm rfl rfl ?_
      refine a4 (br rfl rfl (by omega)) rfl ?_
      refine oga rfl rfl ?_
      refine aZ ?_
      refine bd (Γ := Nat × Value) ⟨t + 1, v4⟩ ⟨rfl, rfl, rfl, trivial⟩ (by (try dsimp only); omega) (⟨by omega, by omega, by rw [show t + 1 - 16 = (t - 16) + 1 from by omega, sch, jK, show 16 + (t - 16) = t from by omega]; exact o4, sb_b1_o4, hbz, hB⟩)
    · -- no
      refine bN rfl ?_
      refine aY ?_
      refine aX ?_
      refine ogm rfl rfl ?_
      refine oga rfl rfl ?_
      refine aZ ?_
      refine af hfin Tryd.results84 rfl ?_
      obtain rfl : t = 64 := by omega
      exact ⟨ow, hB⟩
theorem iS (l0 l1 u0 u1 : Value) (sv kv v : Value) (bs : List UInt8) (s : S8 32) (w : World) (hl0 : Rd w 1 l0 3 [.int .i64 7, .int .i64 18, .int .i64 3]) (hl1 : Rd w 1 l1 3 [.int .i64 17, .int .i64 19, .int .i64 10]) (hu0 : Rd w 1 u0 3 [.int .i64 2, .int .i64 13, .int .i64 22]) (hu1 : Rd w 1 u1 3 [.int .i64 6, .int .i64 11, .int .i64 25]) (hs : RdW w sv (wm (de s))) (hk : RdW w kv (KB Kl)) (hv : RdB w v bs) (hl : bs.length = 64) : Rets Tryd.prog 79 [.agg [.int .i64 32, .int .i64 64, .int .i64 64, l0, l1, u0, u1].toArray, sv, kv, v] w (fun r w' => OwnW w' w.heap.size r (wm (de (blk bf Kl bs s))) ∧ Keep [] w w') := by
 have hB : Keep [] w w := Keep.refl _ _
 have hkl : (KB Kl).length = 80 := rfl
 refine ad Tryd.func79 rfl (by decide) Tryd.ntmps79 rfl (fun fin _ hfin => ?_)
 refine aY (aX (ah (bz (cs := [.int .i64 32, .int .i64 64, .int .i64 64, l0, l1, u0, u1]) rfl rfl) rfl ?_))
 rintro _ w1 ⟨b1, rfl, eb1, hb1, k1, z1⟩
 have ge_b1 : w.heap.size ≤ b1 := by have := hB.size; omega
 replace hB := hB.trans k1
 clear eb1 z1
 refine oga rfl rfl (aZ (aY (aX (a4 (an (cs' := [_, _, _, _, _, _, _]) df dH rfl hb1 rfl rfl) rfl ?_))))
 refine ogm rfl rfl (ah (a7 (vs := [_, _]) rfl (iP _ _ _ _ _ bs _ (hl0.lh hB) (hl1.lh hB) (hu0.lh hB) (hu1.lh hB) (hv.lh hB) hl)) rfl ?_)
 rintro v1 w2 ⟨o1, k2⟩
 have gl_o1 := hB.size
 replace hb1 := hb1.lh k2
 replace hB := hB.trans k2
 have u_o1 := o1.blk
 refine oga rfl rfl (aZ (aY (aX (ah (dA (m := 0) (xs := []) (vs := []) aC bE (by decide) rfl rfl rfl (by first | (simp; done) | (intro v hv; rw [List.mem_singleton] at hv; subst hv; rfl)) (by decide)) rfl ?_))))
 rintro v2 w3 ⟨o2, nn1, lb1, k3, z2⟩
 have gl_o2 := hB.size
 have sb_b1_o2 := fun x hx => (show x ≠ b1 from by have h1 := (o2.blk x hx).1; have h2 := hb1.lt; omega)
 replace hb1 := hb1.lh k3
 replace o1 := o1.lh k3
 replace hB := hB.trans k3
 refine ogm rfl rfl ?_
 have oo_o1 := fun x hx hm => (show False from by have h1 := (u_o1 x hx).2; have h2 := (o2.blk x hm).1; omega)
 replace o2 := o2.lo gl_o2
 have lt_b1_o3 := hb1.lt
 refine ah (i1 (xs := []) (ys := wm (de s)) aC bE rfl rfl (show Own _ _ _ 1 _ 0 (wc []) from o2) rfl (show RdW _ sv (wm (de s)) from hs.lh hB) ⟨(show (0 + 8) * 8 ≤ 140737488355328 by omega), (show 0 + 8 ≤ 9223372036854775807 by omega)⟩ (by have := hB.size; omega)) rfl ?_
 rintro v3 w4 ⟨o3, k4, lb2⟩
 replace hB := hB.new k4 (fun x hx => .inl (o2.blk x hx).1)
 replace o1 := o1.keep k4 (fun x hx hm => oo_o1 x hx hm)
 replace hb1 := hb1.keep k4 (fun hm => sb_b1_o2 _ hm rfl)
 have sb_b1_o3 := fun x hx => (lb2 x hx).elim (sb_b1_o2 x) (fun h => (show x ≠ b1 from by omega))
 have gg_o3 := hB.size
 refine oga rfl rfl (aZ (aY (aY (aX (oga rfl rfl (aZ ?_))))))
 refine ag ?_
 have gw_o1 := o1.lo gl_o1
 refine bT (Γ := Nat × S8 32 × Value) (fun ⟨i, X, o⟩ => [(1, sv), (2, kv), (4, .pointer (some ⟨b1, 0, none⟩)), (9, v1), (10, o), (11, .int .i64 (i : Int))]) (fun ⟨i, X, o⟩ W => i ≤ 64 ∧ X = rnds bf Kl (sch bf bs 48) s i ∧ OwnW W w.heap.size o (wm (de X)) ∧ OwnW W w.heap.size v1 (wm (sch bf bs 48)) ∧ (∀ x, x ∈ vblk o → x ≠ b1) ∧ Bk W b1 86 [.int .i64 32, .int .i64 64, .int .i64 64, l0, l1, u0, u1] ∧ Keep [] w W) (fun ⟨i, X, o⟩ => 64 - i) ⟨0, s, v3⟩ ⟨rfl, rfl, rfl, rfl, rfl, rfl, trivial⟩ (⟨by omega, rfl, o3.lo (by omega), gw_o1, sb_b1_o3, hb1, hB⟩) ?_
 rintro ⟨i, X, o⟩ w5 ⟨hi0, hX, ow, oww, hno, hbz, hB⟩
 refine ab [(1, sv), (2, kv), (4, .pointer (some ⟨b1, 0, none⟩)), (9, v1), (10, o), (11, .int .i64 (i : Int))] ⟨rfl, rfl, rfl, rfl, rfl, rfl, trivial⟩ ?_
 have hsl : (sch bf bs 48).length = 64 := by rw [ed]
 refine aY (aY (aX (ogm rfl rfl (a4 (aj 2 aQ rfl bJ (by decide) rfl rfl) rfl ?_))))
 refine a4 (ac bZ rfl hbz rfl) rfl ?_
 refine a4 (bO rfl rfl) rfl ?_
 refine aZ (ar rfl (fun hc1 => ?_) (fun hc1 => ?_))
 ·
  refine a8 (aY (ag (aY (fE mixed (by decide +kernel) (fun w6 k5 => ?_)))))
  replace ow := ow.lh k5
  replace oww := oww.lh k5
  replace hbz := hbz.lh k5
  replace hB := hB.trans k5
  refine dI (av rfl) rfl (dI (av rfl) rfl (dI (bR aC bE rfl (hk.lh hB) rfl (by first | omega | (rw [dB]; omega))) rfl ?_))
  refine dI (cE (l := (KB Kl)) i bW rfl (hk.lh hB) rfl (by omega)) rfl ?_
  refine dI (aj 0 aQ rfl bJ (by decide) rfl rfl) rfl ?_
  refine dI (ac bZ rfl hbz rfl) rfl ?_
  refine dI (ak (j := 32) (bV rfl rfl) (by decide)) rfl ?_
  refine dI (ak (j := 32) (dY (by rw [aK]; rfl) aP rfl) (by decide)) rfl ?_
  refine dI (dm 32 rfl rfl rfl (by decide)) rfl ?_
  refine dI (ft rfl) rfl (gZ ?_)
  refine aZ (ab [(1, _), (2, _), (4, _), (9, _), (10, _), (11, _), (12, _)] ⟨rfl, rfl, rfl, rfl, rfl, rfl, rfl, trivial⟩ ?_)
  refine aY (cH 37 [0, 1, 2, 3, 4, 5, 6, 7, 8, 9, 12, 13, 14, 15, 16, 17, 18, 19, 20, 21, 22, 23, 24, 25, 26, 27, 29, 31, 32, 33, 34, 10, 11, 28, 30, 35, 36] [10, 36] [] mixed [(4, _), (10, _), (12, _), (9, _), (11, _), (1, _), (2, _)] ⟨rfl, rfl, rfl, rfl, rfl, rfl, rfl, trivial⟩ (by decide +kernel) rfl (fun w7 k6 => ?_))
  replace ow := ow.lh k6
  replace oww := oww.lh k6
  replace hbz := hbz.lh k6
  replace hB := hB.trans k6
  refine aq 4 rfl rfl rfl rfl (fun W' kk => an (cs' := [_, _, _, _, _, _, _]) df dH rfl (Bk.lh hbz kk) rfl rfl) ?_
  refine bC 10 rfl rfl rfl rfl rfl ?_
  refine aq 38 rfl rfl rfl rfl (fun W' kk => bR aC bE rfl (Rd.lh ow.rd kk) rfl (by constructor <;> first | omega | (show (_ : Int) < 8; omega))) ?_
  refine aq 39 rfl rfl rfl rfl (fun W' kk => aw (v' := .int .u64 ((W6 X.h).toNat : Int)) (cE (l := (wm (de X))) 7 bW rfl (Rd.lh ow.rd kk) rfl (bD rfl)) rfl) ?_
  refine aq 4 rfl rfl rfl rfl (fun W' kk => an (cs' := [_, _, _, _, _, _, _]) df dH rfl (Bk.lh hbz kk) rfl rfl) ?_
  refine bC 10 rfl rfl rfl rfl rfl ?_
  refine aq 42 rfl rfl rfl rfl (fun W' kk => bR aC bE rfl (Rd.lh ow.rd kk) rfl (by constructor <;> first | omega | (show (_ : Int) < 8; omega))) ?_
  refine aq 43 rfl rfl rfl rfl (fun W' kk => aw (v' := .int .u64 ((W6 X.e).toNat : Int)) (cE (l := (wm (de X))) 4 bW rfl (Rd.lh ow.rd kk) rfl (bD rfl)) rfl) ?_
  refine aq 4 rfl rfl rfl rfl (fun W' kk => aj 6 aQ rfl ty84 (by decide) rfl rfl) ?_
  refine aq 45 rfl rfl rfl rfl (fun W' kk => ac sc84 rfl (Bk.lh hbz kk) rfl) ?_
  refine bC 10 rfl rfl rfl rfl rfl ?_
  refine aq 49 rfl rfl rfl rfl (fun W' kk => bR aC bE rfl (Rd.lh ow.rd kk) rfl (by constructor <;> first | omega | (show (_ : Int) < 8; omega))) ?_
  refine aq 50 rfl rfl rfl rfl (fun W' kk => aw (v' := .int .u64 ((W6 X.e).toNat : Int)) (cE (l := (wm (de X))) 4 bW rfl (Rd.lh ow.rd kk) rfl (bD rfl)) rfl) ?_
  refine bC 10 rfl rfl rfl rfl rfl ?_
  refine aq 52 rfl rfl rfl rfl (fun W' kk => bR aC bE rfl (Rd.lh ow.rd kk) rfl (by constructor <;> first | omega | (show (_ : Int) < 8; omega))) ?_
  refine aq 53 rfl rfl rfl rfl (fun W' kk => aw (v' := .int .u64 ((W6 X.f).toNat : Int)) (cE (l := (wm (de X))) 5 bW rfl (Rd.lh ow.rd kk) rfl (bD rfl)) rfl) ?_
  refine bb 51 54 rfl rfl rfl rfl rfl (fun W' kk => fq rfl rfl) ?_
  refine bC 10 rfl rfl rfl rfl rfl ?_
  refine aq 56 rfl rfl rfl rfl (fun W' kk => bR aC bE rfl (Rd.lh ow.rd kk) rfl (by constructor <;> first | omega | (show (_ : Int) < 8; omega))) ?_
  refine aq 57 rfl rfl rfl rfl (fun W' kk => aw (v' := .int .u64 ((W6 X.e).toNat : Int)) (cE (l := (wm (de X))) 4 bW rfl (Rd.lh ow.rd kk) rfl (bD rfl)) rfl) ?_
  refine aq 58 rfl rfl rfl rfl (fun W' kk => gb_com rfl) ?_
  refine bC 10 rfl rfl rfl rfl rfl ?_
  refine aq 60 rfl rfl rfl rfl (fun W' kk => bR aC bE rfl (Rd.lh ow.rd kk) rfl (by constructor <;> first | omega | (show (_ : Int) < 8; omega))) ?_
  refine aq 61 rfl rfl rfl rfl (fun W' kk => aw (v' := .int .u64 ((W6 X.g).toNat : Int)) (cE (l := (wm (de X))) 6 bW rfl (Rd.lh ow.rd kk) rfl (bD rfl)) rfl) ?_
  refine bb 59 62 rfl rfl rfl rfl rfl (fun W' kk => fq rfl rfl) ?_
  refine bb 55 63 rfl rfl rfl rfl rfl (fun W' kk => fP rfl rfl) ?_
  refine bC 12 rfl rfl rfl rfl rfl ?_
  refine bC 9 rfl rfl rfl rfl rfl ?_
  refine bC 11 rfl rfl rfl rfl rfl ?_
  refine bb 68 69 rfl rfl rfl rfl rfl (fun W' kk => bR aC bE rfl (Rd.lh oww.rd kk) rfl (by first | omega | (rw [dB]; omega))) ?_
  refine aq 70 rfl rfl rfl rfl (fun W' kk => aw (v' := .int .u64 ((W6 ((sch bf bs 48).getD i 0)).toNat : Int)) (cE (l := (wm (sch bf bs 48))) i bW rfl (Rd.lh oww.rd kk) rfl (by rw [dB]; omega)) (by rw [fg])) ?_
  refine dK [(41, _), (44, _), (46, _)] rfl rfl ⟨rfl, rfl, rfl, trivial⟩ rfl (a7 (vs := [_, _, _]) rfl (fz _ _ _ _ _ _ X.e _ 6 11 25 (by decide) (by decide) (by decide) _ (hu1.lh hB))) ?_
  rintro _ w8 ⟨rfl, k7⟩
  refine ⟨k7, ?_⟩
  replace ow := ow.lh k7
  replace oww := oww.lh k7
  replace hbz := hbz.lh k7
  replace hB := hB.trans k7
  refine bb 40 47 rfl rfl rfl rfl rfl (fun W' kk => ct rfl rfl) ?_
  refine bb 48 64 rfl rfl rfl rfl rfl (fun W' kk => ct rfl rfl) ?_
  refine bb 65 66 rfl rfl rfl rfl rfl (fun W' kk => ct rfl rfl) ?_
  refine bb 67 71 rfl rfl rfl rfl rfl (fun W' kk => ct rfl rfl) ?_
  refine dK [(37, _), (72, _)] rfl rfl ⟨rfl, rfl, trivial⟩ rfl (a7 (vs := [_, _]) rfl (cS _ _ _ _ _ _ _ (((((X.h) + ((hi (6, 11, 25) X.e))) + (((X.e) &&& (X.f)) ^^^ ((~~~(X.e)) &&& (X.g)))) + (cst 32 Kl i)) + (((sch bf bs 48).getD i 0))) (by (try rw [da _ eO]); simp only [dh, BitVec.setWidth_xor, BitVec.setWidth_and, BitVec.setWidth_not (show 32 ≤ 64 by decide), eE]) _)) ?_
  rintro _ w9 ⟨rfl, k8⟩
  refine ⟨k8, ?_⟩
  replace ow := ow.lh k8
  replace oww := oww.lh k8
  replace hbz := hbz.lh k8
  replace hB := hB.trans k8
  refine cY ?_
  refine oga rfl rfl (aZ (ab [(4, _), (10, _), (9, _), (11, _), (1, _), (2, _), (13, _)] ⟨rfl, rfl, rfl, rfl, rfl, rfl, rfl, trivial⟩ ?_))
  refine aY (cH 33 [0, 1, 2, 3, 4, 5, 6, 8, 9, 10, 11, 12, 13, 14, 15, 16, 17, 18, 19, 20, 21, 22, 23, 24, 25, 26, 27, 28, 29, 30, 7, 31, 32] [7, 32] [] mixed [(4, _), (10, _), (9, _), (11, _), (1, _), (2, _), (13, _)] ⟨rfl, rfl, rfl, rfl, rfl, rfl, rfl, trivial⟩ (by decide +kernel) rfl (fun w10 k9 => ?_))
  replace ow := ow.lh k9
  replace oww := oww.lh k9
  replace hbz := hbz.lh k9
  replace hB := hB.trans k9
  refine aq 4 rfl rfl rfl rfl (fun W' kk => an (cs' := [_, _, _, _, _, _, _]) df dH rfl (Bk.lh hbz kk) rfl rfl) ?_
  refine aq 4 rfl rfl rfl rfl (fun W' kk => an (cs' := [_, _, _, _, _, _, _]) df dH rfl (Bk.lh hbz kk) rfl rfl) ?_
  refine bC 10 rfl rfl rfl rfl rfl ?_
  refine aq 76 rfl rfl rfl rfl (fun W' kk => bR aC bE rfl (Rd.lh ow.rd kk) rfl (by constructor <;> first | omega | (show (_ : Int) < 8; omega))) ?_
  refine aq 77 rfl rfl rfl rfl (fun W' kk => aw (v' := .int .u64 ((W6 X.a).toNat : Int)) (cE (l := (wm (de X))) 0 bW rfl (Rd.lh ow.rd kk) rfl (bD rfl)) rfl) ?_
  refine aq 4 rfl rfl rfl rfl (fun W' kk => aj 5 aQ rfl ty84 (by decide) rfl rfl) ?_
  refine aq 79 rfl rfl rfl rfl (fun W' kk => ac sc84 rfl (Bk.lh hbz kk) rfl) ?_
  refine bC 10 rfl rfl rfl rfl rfl ?_
  refine aq 82 rfl rfl rfl rfl (fun W' kk => bR aC bE rfl (Rd.lh ow.rd kk) rfl (by constructor <;> first | omega | (show (_ : Int) < 8; omega))) ?_
  refine aq 83 rfl rfl rfl rfl (fun W' kk => aw (v' := .int .u64 ((W6 X.a).toNat : Int)) (cE (l := (wm (de X))) 0 bW rfl (Rd.lh ow.rd kk) rfl (bD rfl)) rfl) ?_
  refine bC 10 rfl rfl rfl rfl rfl ?_
  refine aq 85 rfl rfl rfl rfl (fun W' kk => bR aC bE rfl (Rd.lh ow.rd kk) rfl (by constructor <;> first | omega | (show (_ : Int) < 8; omega))) ?_
  refine aq 86 rfl rfl rfl rfl (fun W' kk => aw (v' := .int .u64 ((W6 X.b).toNat : Int)) (cE (l := (wm (de X))) 1 bW rfl (Rd.lh ow.rd kk) rfl (bD rfl)) rfl) ?_
  refine bb 84 87 rfl rfl rfl rfl rfl (fun W' kk => fq rfl rfl) ?_
  refine bC 10 rfl rfl rfl rfl rfl ?_
  refine aq 89 rfl rfl rfl rfl (fun W' kk => bR aC bE rfl (Rd.lh ow.rd kk) rfl (by constructor <;> first | omega | (show (_ : Int) < 8; omega))) ?_
  refine aq 90 rfl rfl rfl rfl (fun W' kk => aw (v' := .int .u64 ((W6 X.a).toNat : Int)) (cE (l := (wm (de X))) 0 bW rfl (Rd.lh ow.rd kk) rfl (bD rfl)) rfl) ?_
  refine bC 10 rfl rfl rfl rfl rfl ?_
  refine aq 92 rfl rfl rfl rfl (fun W' kk => bR aC bE rfl (Rd.lh ow.rd kk) rfl (by constructor <;> first | omega | (show (_ : Int) < 8; omega))) ?_
  refine aq 93 rfl rfl rfl rfl (fun W' kk => aw (v' := .int .u64 ((W6 X.c).toNat : Int)) (cE (l := (wm (de X))) 2 bW rfl (Rd.lh ow.rd kk) rfl (bD rfl)) rfl) ?_
  refine bb 91 94 rfl rfl rfl rfl rfl (fun W' kk => fq rfl rfl) ?_
  refine bb 88 95 rfl rfl rfl rfl rfl (fun W' kk => fP rfl rfl) ?_
  refine bC 10 rfl rfl rfl rfl rfl ?_
  refine aq 97 rfl rfl rfl rfl (fun W' kk => bR aC bE rfl (Rd.lh ow.rd kk) rfl (by constructor <;> first | omega | (show (_ : Int) < 8; omega))) ?_
  refine aq 98 rfl rfl rfl rfl (fun W' kk => aw (v' := .int .u64 ((W6 X.b).toNat : Int)) (cE (l := (wm (de X))) 1 bW rfl (Rd.lh ow.rd kk) rfl (bD rfl)) rfl) ?_
  refine bC 10 rfl rfl rfl rfl rfl ?_
  refine aq 100 rfl rfl rfl rfl (fun W' kk => bR aC bE rfl (Rd.lh ow.rd kk) rfl (by constructor <;> first | omega | (show (_ : Int) < 8; omega))) ?_
  refine aq 101 rfl rfl rfl rfl (fun W' kk => aw (v' := .int .u64 ((W6 X.c).toNat : Int)) (cE (l := (wm (de X))) 2 bW rfl (Rd.lh ow.rd kk) rfl (bD rfl)) rfl) ?_
  refine bb 99 102 rfl rfl rfl rfl rfl (fun W' kk => fq rfl rfl) ?_
  refine bb 96 103 rfl rfl rfl rfl rfl (fun W' kk => fP rfl rfl) ?_
  refine dK [(75, _), (78, _), (80, _)] rfl rfl ⟨rfl, rfl, rfl, trivial⟩ rfl (a7 (vs := [_, _, _]) rfl (fz _ _ _ _ _ _ X.a _ 2 13 22 (by decide) (by decide) (by decide) _ (hu0.lh hB))) ?_
  rintro _ w11 ⟨rfl, k10⟩
  refine ⟨k10, ?_⟩
  replace ow := ow.lh k10
  replace oww := oww.lh k10
  replace hbz := hbz.lh k10
  replace hB := hB.trans k10
  refine bb 81 104 rfl rfl rfl rfl rfl (fun W' kk => ct rfl rfl) ?_
  refine dK [(74, _), (105, _)] rfl rfl ⟨rfl, rfl, trivial⟩ rfl (a7 (vs := [_, _]) rfl (cS _ _ _ _ _ _ _ (((hi (2, 13, 22) X.a)) + ((((X.a) &&& (X.b)) ^^^ ((X.a) &&& (X.c))) ^^^ ((X.b) &&& (X.c)))) (by (try rw [da _ eO]); simp only [dh, BitVec.setWidth_xor, BitVec.setWidth_and, BitVec.setWidth_not (show 32 ≤ 64 by decide), eE]) _)) ?_
  rintro _ w12 ⟨rfl, k11⟩
  refine ⟨k11, ?_⟩
  replace ow := ow.lh k11
  replace oww := oww.lh k11
  replace hbz := hbz.lh k11
  replace hB := hB.trans k11
  refine cY ?_
  refine oga rfl rfl (aZ (ab [(4, _), (10, _), (9, _), (11, _), (1, _), (2, _), (13, _), (14, _)] ⟨rfl, rfl, rfl, rfl, rfl, rfl, rfl, rfl, trivial⟩ ?_))
  refine cH 31 [0, 1, 2, 3, 5, 6, 7, 8, 9, 10, 11, 12, 13, 14, 15, 16, 17, 18, 19, 21, 22, 23, 24, 25, 26, 27, 28, 29, 4, 20, 30] [4, 20, 30] [] mixed [(4, _), (13, _), (14, _), (10, _), (9, _), (11, _), (1, _), (2, _)] ⟨rfl, rfl, rfl, rfl, rfl, rfl, rfl, rfl, trivial⟩ (by decide +kernel) rfl (fun w13 k12 => ?_)
  replace ow := ow.lh k12
  replace oww := oww.lh k12
  replace hbz := hbz.lh k12
  replace hB := hB.trans k12
  refine aq 4 rfl rfl rfl rfl (fun W' kk => an (cs' := [_, _, _, _, _, _, _]) df dH rfl (Bk.lh hbz kk) rfl rfl) ?_
  refine bC 13 rfl rfl rfl rfl rfl ?_
  refine bC 14 rfl rfl rfl rfl rfl ?_
  refine bb 108 109 rfl rfl rfl rfl rfl (fun W' kk => ct rfl rfl) ?_
  refine bC 10 rfl rfl rfl rfl rfl ?_
  refine aq 112 rfl rfl rfl rfl (fun W' kk => bR aC bE rfl (Rd.lh ow.rd kk) rfl (by constructor <;> first | omega | (show (_ : Int) < 8; omega))) ?_
  refine aq 113 rfl rfl rfl rfl (fun W' kk => aw (v' := .int .u64 ((W6 X.a).toNat : Int)) (cE (l := (wm (de X))) 0 bW rfl (Rd.lh ow.rd kk) rfl (bD rfl)) rfl) ?_
  refine bC 10 rfl rfl rfl rfl rfl ?_
  refine aq 115 rfl rfl rfl rfl (fun W' kk => bR aC bE rfl (Rd.lh ow.rd kk) rfl (by constructor <;> first | omega | (show (_ : Int) < 8; omega))) ?_
  refine aq 116 rfl rfl rfl rfl (fun W' kk => aw (v' := .int .u64 ((W6 X.b).toNat : Int)) (cE (l := (wm (de X))) 1 bW rfl (Rd.lh ow.rd kk) rfl (bD rfl)) rfl) ?_
  refine bC 10 rfl rfl rfl rfl rfl ?_
  refine aq 118 rfl rfl rfl rfl (fun W' kk => bR aC bE rfl (Rd.lh ow.rd kk) rfl (by constructor <;> first | omega | (show (_ : Int) < 8; omega))) ?_
  refine aq 119 rfl rfl rfl rfl (fun W' kk => aw (v' := .int .u64 ((W6 X.c).toNat : Int)) (cE (l := (wm (de X))) 2 bW rfl (Rd.lh ow.rd kk) rfl (bD rfl)) rfl) ?_
  refine aq 4 rfl rfl rfl rfl (fun W' kk => an (cs' := [_, _, _, _, _, _, _]) df dH rfl (Bk.lh hbz kk) rfl rfl) ?_
  refine bC 10 rfl rfl rfl rfl rfl ?_
  refine aq 122 rfl rfl rfl rfl (fun W' kk => bR aC bE rfl (Rd.lh ow.rd kk) rfl (by constructor <;> first | omega | (show (_ : Int) < 8; omega))) ?_
  refine aq 123 rfl rfl rfl rfl (fun W' kk => aw (v' := .int .u64 ((W6 X.d).toNat : Int)) (cE (l := (wm (de X))) 3 bW rfl (Rd.lh ow.rd kk) rfl (bD rfl)) rfl) ?_
  refine bC 13 rfl rfl rfl rfl rfl ?_
  refine bb 124 125 rfl rfl rfl rfl rfl (fun W' kk => ct rfl rfl) ?_
  refine bC 10 rfl rfl rfl rfl rfl ?_
  refine aq 128 rfl rfl rfl rfl (fun W' kk => bR aC bE rfl (Rd.lh ow.rd kk) rfl (by constructor <;> first | omega | (show (_ : Int) < 8; omega))) ?_
  refine aq 129 rfl rfl rfl rfl (fun W' kk => aw (v' := .int .u64 ((W6 X.e).toNat : Int)) (cE (l := (wm (de X))) 4 bW rfl (Rd.lh ow.rd kk) rfl (bD rfl)) rfl) ?_
  refine bC 10 rfl rfl rfl rfl rfl ?_
  refine aq 131 rfl rfl rfl rfl (fun W' kk => bR aC bE rfl (Rd.lh ow.rd kk) rfl (by constructor <;> first | omega | (show (_ : Int) < 8; omega))) ?_
  refine aq 132 rfl rfl rfl rfl (fun W' kk => aw (v' := .int .u64 ((W6 X.f).toNat : Int)) (cE (l := (wm (de X))) 5 bW rfl (Rd.lh ow.rd kk) rfl (bD rfl)) rfl) ?_
  refine bC 10 rfl rfl rfl rfl rfl ?_
  refine aq 134 rfl rfl rfl rfl (fun W' kk => bR aC bE rfl (Rd.lh ow.rd kk) rfl (by constructor <;> first | omega | (show (_ : Int) < 8; omega))) ?_
  refine aq 135 rfl rfl rfl rfl (fun W' kk => aw (v' := .int .u64 ((W6 X.g).toNat : Int)) (cE (l := (wm (de X))) 6 bW rfl (Rd.lh ow.rd kk) rfl (bD rfl)) rfl) ?_
  refine dK [(107, _), (110, _)] rfl rfl ⟨rfl, rfl, trivial⟩ rfl (a7 (vs := [_, _]) rfl (cS _ _ _ _ _ _ _ (((((((X.h) + ((hi (6, 11, 25) X.e))) + (((X.e) &&& (X.f)) ^^^ ((~~~(X.e)) &&& (X.g)))) + (cst 32 Kl i)) + (((sch bf bs 48).getD i 0)))) + ((((hi (2, 13, 22) X.a)) + ((((X.a) &&& (X.b)) ^^^ ((X.a) &&& (X.c))) ^^^ ((X.b) &&& (X.c)))))) (by (try rw [da _ eO]); simp only [dh, BitVec.setWidth_xor, BitVec.setWidth_and, BitVec.setWidth_not (show 32 ≤ 64 by decide), eE]) _)) ?_
  rintro _ w14 ⟨rfl, k13⟩
  refine ⟨k13, ?_⟩
  replace ow := ow.lh k13
  replace oww := oww.lh k13
  replace hbz := hbz.lh k13
  replace hB := hB.trans k13
  refine dK [(121, _), (126, _)] rfl rfl ⟨rfl, rfl, trivial⟩ rfl (a7 (vs := [_, _]) rfl (cS _ _ _ _ _ _ _ ((X.d) + ((((((X.h) + ((hi (6, 11, 25) X.e))) + (((X.e) &&& (X.f)) ^^^ ((~~~(X.e)) &&& (X.g)))) + (cst 32 Kl i)) + (((sch bf bs 48).getD i 0))))) (by (try rw [da _ eO]); simp only [dh, BitVec.setWidth_xor, BitVec.setWidth_and, BitVec.setWidth_not (show 32 ≤ 64 by decide), eE]) _)) ?_
  rintro _ w15 ⟨rfl, k14⟩
  refine ⟨k14, ?_⟩
  replace ow := ow.lh k14
  replace oww := oww.lh k14
  replace hbz := hbz.lh k14
  replace hB := hB.trans k14
  refine dK [(111, _), (114, _), (117, _), (120, _), (127, _), (130, _), (133, _), (136, _)] rfl rfl ⟨rfl, rfl, rfl, rfl, rfl, rfl, rfl, rfl, trivial⟩ rfl (dA (m := 8) (xs := [.tmp 111, .tmp 114, .tmp 117, .tmp 120, .tmp 127, .tmp 130, .tmp 133, .tmp 136]) (vs := [_, _, _, _, _, _, _, _]) aC bE (by decide) rfl rfl rfl (by simp only [List.forall_mem_cons]; exact ⟨rfl, rfl, rfl, rfl, rfl, rfl, rfl, rfl, fun v hv => by cases hv⟩) (by decide)) ?_
  rintro v4 w16 ⟨o4, nn2, lb3, k15, z3⟩
  refine ⟨k15, ?_⟩
  have gl_o4 := hB.size
  have sb_b1_o4 := fun x hx => (show x ≠ b1 from by have h1 := (o4.blk x hx).1; have h2 := hbz.lt; omega)
  replace ow := ow.lh k15
  replace oww := oww.lh k15
  replace hbz := hbz.lh k15
  replace hB := hB.trans k15
  refine cY ?_
  refine oga rfl rfl (aZ (ab [(4, _), (10, _), (9, _), (11, _), (1, _), (2, _)] ⟨rfl, rfl, rfl, rfl, rfl, rfl, trivial⟩ ?_))
  refine bg (aX (ogm rfl rfl (a4 (br rfl rfl (by omega)) rfl ?_)))
  refine oga rfl rfl (aZ (bd (Γ := Nat × S8 32 × Value) ⟨i + 1, rnd bf (cst 32 Kl i) ((sch bf bs 48).getD i 0) X, v4⟩ ⟨rfl, rfl, rfl, rfl, rfl, rfl, trivial⟩ (by (try dsimp only); omega) (⟨by omega, by rw [hX]; rfl, o4.lo gl_o4, oww, sb_b1_o4, hbz, hB⟩)))
 ·
  refine bN rfl ?_
  refine aY (aY (aX ?_))
  obtain rfl : i = 64 := by omega
  replace ow : Own w5 w.heap.size 100 1 o 8 [.int .u64 ((W6 X.a).toNat : Int), .int .u64 ((W6 X.b).toNat : Int), .int .u64 ((W6 X.c).toNat : Int), .int .u64 ((W6 X.d).toNat : Int), .int .u64 ((W6 X.e).toNat : Int), .int .u64 ((W6 X.f).toNat : Int), .int .u64 ((W6 X.g).toNat : Int), .int .u64 ((W6 X.h).toNat : Int)] := ow
  have go_o := fun x hx => (ow.blk x hx).1
  refine oga rfl rfl (aZ (ag (fD 9 ?_)))
  refine aY (aY (aX (ogm rfl rfl (a4 (bO rfl rfl) rfl ?_))))
  refine aZ (bj rfl (by decide) ?_)
  refine a8 (aY (ag (cH 13 [0, 1, 2, 3, 4, 5, 6, 7, 8, 9, 10, 11, 12] [12] [] mixed [(10, _), (15, _), (4, _), (1, _)] ⟨rfl, rfl, rfl, rfl, trivial⟩ (by decide +kernel) rfl (fun w17 k16 => ?_))))
  replace ow := ow.lh k16
  replace hbz := hbz.lh k16
  replace hB := hB.trans k16
  refine bC 10 rfl rfl rfl rfl rfl ?_
  refine bC 15 rfl rfl rfl rfl rfl ?_
  refine aq 4 rfl rfl rfl rfl (fun W' kk => an (cs' := [_, _, _, _, _, _, _]) df dH rfl (Bk.lh hbz kk) rfl rfl) ?_
  refine bC 10 rfl rfl rfl rfl rfl ?_
  refine bC 15 rfl rfl rfl rfl rfl ?_
  refine bb 145 146 rfl rfl rfl rfl rfl (fun W' kk => bR aC bE rfl (ow.lh kk).rd rfl (by omega)) ?_
  refine aq 147 rfl rfl rfl rfl (fun W' kk => dN bW rfl (by first | exact Rd.lh ‹_› kk | exact Rd.lh (Own.rd ‹_›) kk | exact Rd.lh (Rd.lh ‹_› hB) kk | exact Rd.lh (Own.rd (Own.lh ‹_› hB)) kk) rfl) ?_
  refine bC 1 rfl rfl rfl rfl rfl ?_
  refine bC 15 rfl rfl rfl rfl rfl ?_
  refine bb 149 150 rfl rfl rfl rfl rfl (fun W' kk => bR aC bE rfl (Rd.lh (hs.lh hB) kk) rfl (by constructor <;> first | omega | (show (_ : Int) < 8; omega))) ?_
  refine aq 151 rfl rfl rfl rfl (fun W' kk => aw (v' := .int .u64 ((W6 s.a).toNat : Int)) (cE (l := (wm (de s))) 0 bW rfl (Rd.lh (hs.lh hB) kk) rfl (bD rfl)) rfl) ?_
  refine bb 148 152 rfl rfl rfl rfl rfl (fun W' kk => ct rfl rfl) ?_
  refine dK [(144, _), (153, _)] rfl rfl ⟨rfl, rfl, trivial⟩ rfl (a7 (vs := [_, _]) rfl (cS _ _ _ _ _ _ _ ((X.a) + (s.a)) (by (try rw [da _ eO]); simp only [dh, BitVec.setWidth_xor, BitVec.setWidth_and, BitVec.setWidth_not (show 32 ≤ 64 by decide), eE]) _)) ?_
  rintro _ w18 ⟨rfl, k17⟩
  refine ⟨k17, ?_⟩
  replace ow := ow.lh k17
  replace hbz := hbz.lh k17
  replace hB := hB.trans k17
  refine cY ?_
  refine a4 (bR aC bE rfl ow.rd rfl (by omega)) rfl ?_
  refine am (fK (u := .int .u64 ((W6 ((X.a) + (s.a))).toNat : Int)) bE rfl rfl rfl ow (bD rfl)) ?_
  rintro _ w19 ⟨o5, k18, z4⟩
  have z_k18 := k18.size
  replace o5 : Own w19 _ 100 1 o 8 [.int .u64 ((W6 ((X.a) + (s.a))).toNat : Int), .int .u64 ((W6 X.b).toNat : Int), .int .u64 ((W6 X.c).toNat : Int), .int .u64 ((W6 X.d).toNat : Int), .int .u64 ((W6 X.e).toNat : Int), .int .u64 ((W6 X.f).toNat : Int), .int .u64 ((W6 X.g).toNat : Int), .int .u64 ((W6 X.h).toNat : Int)] := o5
  replace hbz := hbz.keep k18 (fun hm => hno _ hm rfl)
  replace hB := hB.new k18 (fun x hx => .inl (go_o x hx))
  clear z_k18 z4
  refine aZ (ab [(10, _), (15, _), (4, _), (1, _)] ⟨rfl, rfl, rfl, rfl, trivial⟩ ?_)
  refine bg (aX (ogm rfl rfl (a4 (ak (j := 1) (bk rfl rfl) (by decide)) rfl ?_)))
  refine oga rfl rfl (aZ (cW (aY (aY (aX (ogm rfl rfl ?_))))))
  refine a4 (bO rfl rfl) rfl ?_
  refine aZ (bj rfl (by decide) ?_)
  refine a8 (aY (ag (cH 13 [0, 1, 2, 3, 4, 5, 6, 7, 8, 9, 10, 11, 12] [12] [] mixed [(10, _), (15, _), (4, _), (1, _)] ⟨rfl, rfl, rfl, rfl, trivial⟩ (by decide +kernel) rfl (fun w20 k19 => ?_))))
  replace hbz := hbz.lh k19
  replace o5 := o5.lh k19
  replace hB := hB.trans k19
  refine bC 10 rfl rfl rfl rfl rfl ?_
  refine bC 15 rfl rfl rfl rfl rfl ?_
  refine aq 4 rfl rfl rfl rfl (fun W' kk => an (cs' := [_, _, _, _, _, _, _]) df dH rfl (Bk.lh hbz kk) rfl rfl) ?_
  refine bC 10 rfl rfl rfl rfl rfl ?_
  refine bC 15 rfl rfl rfl rfl rfl ?_
  refine bb 145 146 rfl rfl rfl rfl rfl (fun W' kk => bR aC bE rfl (by first | exact Rd.lh ‹_› kk | exact Rd.lh (Own.rd ‹_›) kk | exact Rd.lh (Rd.lh ‹_› hB) kk | exact Rd.lh (Own.rd (Own.lh ‹_› hB)) kk) rfl (by omega)) ?_
  refine aq 147 rfl rfl rfl rfl (fun W' kk => dN bW rfl (by first | exact Rd.lh ‹_› kk | exact Rd.lh (Own.rd ‹_›) kk | exact Rd.lh (Rd.lh ‹_› hB) kk | exact Rd.lh (Own.rd (Own.lh ‹_› hB)) kk) rfl) ?_
  refine bC 1 rfl rfl rfl rfl rfl ?_
  refine bC 15 rfl rfl rfl rfl rfl ?_
  refine bb 149 150 rfl rfl rfl rfl rfl (fun W' kk => bR aC bE rfl (Rd.lh (hs.lh hB) kk) rfl (by constructor <;> first | omega | (show (_ : Int) < 8; omega))) ?_
  refine aq 151 rfl rfl rfl rfl (fun W' kk => aw (v' := .int .u64 ((W6 s.b).toNat : Int)) (cE (l := (wm (de s))) 1 bW rfl (Rd.lh (hs.lh hB) kk) rfl (bD rfl)) rfl) ?_
  refine bb 148 152 rfl rfl rfl rfl rfl (fun W' kk => ct rfl rfl) ?_
  refine dK [(144, _), (153, _)] rfl rfl ⟨rfl, rfl, trivial⟩ rfl (a7 (vs := [_, _]) rfl (cS _ _ _ _ _ _ _ ((X.b) + (s.b)) (by (try rw [da _ eO]); simp only [dh, BitVec.setWidth_xor, BitVec.setWidth_and, BitVec.setWidth_not (show 32 ≤ 64 by decide), eE]) _)) ?_
  rintro _ w21 ⟨rfl, k20⟩
  refine ⟨k20, ?_⟩
  replace hbz := hbz.lh k20
  replace o5 := o5.lh k20
  replace hB := hB.trans k20
  refine cY ?_
  refine a4 (bR aC bE rfl (by first | assumption | exact Own.rd ‹_› | exact Rd.lh ‹_› hB | exact Own.rd (Own.lh ‹_› hB)) rfl (by omega)) rfl ?_
  refine am (fK (u := .int .u64 ((W6 ((X.b) + (s.b))).toNat : Int)) bE rfl rfl rfl o5 (bD rfl)) ?_
  rintro _ w22 ⟨o6, k21, z5⟩
  have z_k21 := k21.size
  replace o6 : Own w22 _ 100 1 o 8 [.int .u64 ((W6 ((X.a) + (s.a))).toNat : Int), .int .u64 ((W6 ((X.b) + (s.b))).toNat : Int), .int .u64 ((W6 X.c).toNat : Int), .int .u64 ((W6 X.d).toNat : Int), .int .u64 ((W6 X.e).toNat : Int), .int .u64 ((W6 X.f).toNat : Int), .int .u64 ((W6 X.g).toNat : Int), .int .u64 ((W6 X.h).toNat : Int)] := o6
  replace hbz := hbz.keep k21 (fun hm => hno _ hm rfl)
  replace hB := hB.new k21 (fun x hx => .inl (go_o x hx))
  clear z_k21 z5
  refine aZ (ab [(10, _), (15, _), (4, _), (1, _)] ⟨rfl, rfl, rfl, rfl, trivial⟩ ?_)
  refine bg (aX (ogm rfl rfl (a4 (ak (j := 2) (bk rfl rfl) (by decide)) rfl ?_)))
  refine oga rfl rfl (aZ (cW (aY (aY (aX (ogm rfl rfl ?_))))))
  refine a4 (bO rfl rfl) rfl ?_
  refine aZ (bj rfl (by decide) ?_)
  refine a8 (aY (ag (cH 13 [0, 1, 2, 3, 4, 5, 6, 7, 8, 9, 10, 11, 12] [12] [] mixed [(10, _), (15, _), (4, _), (1, _)] ⟨rfl, rfl, rfl, rfl, trivial⟩ (by decide +kernel) rfl (fun w23 k22 => ?_))))
  replace hbz := hbz.lh k22
  replace o6 := o6.lh k22
  replace hB := hB.trans k22
  refine bC 10 rfl rfl rfl rfl rfl ?_
  refine bC 15 rfl rfl rfl rfl rfl ?_
  refine aq 4 rfl rfl rfl rfl (fun W' kk => an (cs' := [_, _, _, _, _, _, _]) df dH rfl (Bk.lh hbz kk) rfl rfl) ?_
  refine bC 10 rfl rfl rfl rfl rfl ?_
  refine bC 15 rfl rfl rfl rfl rfl ?_
  refine bb 145 146 rfl rfl rfl rfl rfl (fun W' kk => bR aC bE rfl (by first | exact Rd.lh ‹_› kk | exact Rd.lh (Own.rd ‹_›) kk | exact Rd.lh (Rd.lh ‹_› hB) kk | exact Rd.lh (Own.rd (Own.lh ‹_› hB)) kk) rfl (by omega)) ?_
  refine aq 147 rfl rfl rfl rfl (fun W' kk => dN bW rfl (by first | exact Rd.lh ‹_› kk | exact Rd.lh (Own.rd ‹_›) kk | exact Rd.lh (Rd.lh ‹_› hB) kk | exact Rd.lh (Own.rd (Own.lh ‹_› hB)) kk) rfl) ?_
  refine bC 1 rfl rfl rfl rfl rfl ?_
  refine bC 15 rfl rfl rfl rfl rfl ?_
  refine bb 149 150 rfl rfl rfl rfl rfl (fun W' kk => bR aC bE rfl (Rd.lh (hs.lh hB) kk) rfl (by constructor <;> first | omega | (show (_ : Int) < 8; omega))) ?_
  refine aq 151 rfl rfl rfl rfl (fun W' kk => aw (v' := .int .u64 ((W6 s.c).toNat : Int)) (cE (l := (wm (de s))) 2 bW rfl (Rd.lh (hs.lh hB) kk) rfl (bD rfl)) rfl) ?_
  refine bb 148 152 rfl rfl rfl rfl rfl (fun W' kk => ct rfl rfl) ?_
  refine dK [(144, _), (153, _)] rfl rfl ⟨rfl, rfl, trivial⟩ rfl (a7 (vs := [_, _]) rfl (cS _ _ _ _ _ _ _ ((X.c) + (s.c)) (by (try rw [da _ eO]); simp only [dh, BitVec.setWidth_xor, BitVec.setWidth_and, BitVec.setWidth_not (show 32 ≤ 64 by decide), eE]) _)) ?_
  rintro _ w24 ⟨rfl, k23⟩
  refine ⟨k23, ?_⟩
  replace hbz := hbz.lh k23
  replace o6 := o6.lh k23
  replace hB := hB.trans k23
  refine cY ?_
  refine a4 (bR aC bE rfl (by first | assumption | exact Own.rd ‹_› | exact Rd.lh ‹_› hB | exact Own.rd (Own.lh ‹_› hB)) rfl (by omega)) rfl ?_
  refine am (fK (u := .int .u64 ((W6 ((X.c) + (s.c))).toNat : Int)) bE rfl rfl rfl o6 (bD rfl)) ?_
  rintro _ w25 ⟨o7, k24, z6⟩
  have z_k24 := k24.size
  replace o7 : Own w25 _ 100 1 o 8 [.int .u64 ((W6 ((X.a) + (s.a))).toNat : Int), .int .u64 ((W6 ((X.b) + (s.b))).toNat : Int), .int .u64 ((W6 ((X.c) + (s.c))).toNat : Int), .int .u64 ((W6 X.d).toNat : Int), .int .u64 ((W6 X.e).toNat : Int), .int .u64 ((W6 X.f).toNat : Int), .int .u64 ((W6 X.g).toNat : Int), .int .u64 ((W6 X.h).toNat : Int)] := o7
  replace hbz := hbz.keep k24 (fun hm => hno _ hm rfl)
  replace hB := hB.new k24 (fun x hx => .inl (go_o x hx))
  clear z_k24 z6
  refine aZ (ab [(10, _), (15, _), (4, _), (1, _)] ⟨rfl, rfl, rfl, rfl, trivial⟩ ?_)
  refine bg (aX (ogm rfl rfl (a4 (ak (j := 3) (bk rfl rfl) (by decide)) rfl ?_)))
  refine oga rfl rfl (aZ (cW (aY (aY (aX (ogm rfl rfl ?_))))))
  refine a4 (bO rfl rfl) rfl ?_
  refine aZ (bj rfl (by decide) ?_)
  refine a8 (aY (ag (cH 13 [0, 1, 2, 3, 4, 5, 6, 7, 8, 9, 10, 11, 12] [12] [] mixed [(10, _), (15, _), (4, _), (1, _)] ⟨rfl, rfl, rfl, rfl, trivial⟩ (by decide +kernel) rfl (fun w26 k25 => ?_))))
  replace hbz := hbz.lh k25
  replace o7 := o7.lh k25
  replace hB := hB.trans k25
  refine bC 10 rfl rfl rfl rfl rfl ?_
  refine bC 15 rfl rfl rfl rfl rfl ?_
  refine aq 4 rfl rfl rfl rfl (fun W' kk => an (cs' := [_, _, _, _, _, _, _]) df dH rfl (Bk.lh hbz kk) rfl rfl) ?_
  refine bC 10 rfl rfl rfl rfl rfl ?_
  refine bC 15 rfl rfl rfl rfl rfl ?_
  refine bb 145 146 rfl rfl rfl rfl rfl (fun W' kk => bR aC bE rfl (by first | exact Rd.lh ‹_› kk | exact Rd.lh (Own.rd ‹_›) kk | exact Rd.lh (Rd.lh ‹_› hB) kk | exact Rd.lh (Own.rd (Own.lh ‹_› hB)) kk) rfl (by omega)) ?_
  refine aq 147 rfl rfl rfl rfl (fun W' kk => dN bW rfl (by first | exact Rd.lh ‹_› kk | exact Rd.lh (Own.rd ‹_›) kk | exact Rd.lh (Rd.lh ‹_› hB) kk | exact Rd.lh (Own.rd (Own.lh ‹_› hB)) kk) rfl) ?_
  refine bC 1 rfl rfl rfl rfl rfl ?_
  refine bC 15 rfl rfl rfl rfl rfl ?_
  refine bb 149 150 rfl rfl rfl rfl rfl (fun W' kk => bR aC bE rfl (Rd.lh (hs.lh hB) kk) rfl (by constructor <;> first | omega | (show (_ : Int) < 8; omega))) ?_
  refine aq 151 rfl rfl rfl rfl (fun W' kk => aw (v' := .int .u64 ((W6 s.d).toNat : Int)) (cE (l := (wm (de s))) 3 bW rfl (Rd.lh (hs.lh hB) kk) rfl (bD rfl)) rfl) ?_
  refine bb 148 152 rfl rfl rfl rfl rfl (fun W' kk => ct rfl rfl) ?_
  refine dK [(144, _), (153, _)] rfl rfl ⟨rfl, rfl, trivial⟩ rfl (a7 (vs := [_, _]) rfl (cS _ _ _ _ _ _ _ ((X.d) + (s.d)) (by (try rw [da _ eO]); simp only [dh, BitVec.setWidth_xor, BitVec.setWidth_and, BitVec.setWidth_not (show 32 ≤ 64 by decide), eE]) _)) ?_
  rintro _ w27 ⟨rfl, k26⟩
  refine ⟨k26, ?_⟩
  replace hbz := hbz.lh k26
  replace o7 := o7.lh k26
  replace hB := hB.trans k26
  refine cY ?_
  refine a4 (bR aC bE rfl (by first | assumption | exact Own.rd ‹_› | exact Rd.lh ‹_› hB | exact Own.rd (Own.lh ‹_› hB)) rfl (by omega)) rfl ?_
  refine am (fK (u := .int .u64 ((W6 ((X.d) + (s.d))).toNat : Int)) bE rfl rfl rfl o7 (bD rfl)) ?_
  rintro _ w28 ⟨o8, k27, z7⟩
  have z_k27 := k27.size
  replace o8 : Own w28 _ 100 1 o 8 [.int .u64 ((W6 ((X.a) + (s.a))).toNat : Int), .int .u64 ((W6 ((X.b) + (s.b))).toNat : Int), .int .u64 ((W6 ((X.c) + (s.c))).toNat : Int), .int .u64 ((W6 ((X.d) + (s.d))).toNat : Int), .int .u64 ((W6 X.e).toNat : Int), .int .u64 ((W6 X.f).toNat : Int), .int .u64 ((W6 X.g).toNat : Int), .int .u64 ((W6 X.h).toNat : Int)] := o8
  replace hbz := hbz.keep k27 (fun hm => hno _ hm rfl)
  replace hB := hB.new k27 (fun x hx => .inl (go_o x hx))
  clear z_k27 z7
  refine aZ (ab [(10, _), (15, _), (4, _), (1, _)] ⟨rfl, rfl, rfl, rfl, trivial⟩ ?_)
  refine bg (aX (ogm rfl rfl (a4 (ak (j := 4) (bk rfl rfl) (by decide)) rfl ?_)))
  refine oga rfl rfl (aZ (cW (aY (aY (aX (ogm rfl rfl ?_))))))
  refine a4 (bO rfl rfl) rfl ?_
  refine aZ (bj rfl (by decide) ?_)
  refine a8 (aY (ag (cH 13 [0, 1, 2, 3, 4, 5, 6, 7, 8, 9, 10, 11, 12] [12] [] mixed [(10, _), (15, _), (4, _), (1, _)] ⟨rfl, rfl, rfl, rfl, trivial⟩ (by decide +kernel) rfl (fun w29 k28 => ?_))))
  replace hbz := hbz.lh k28
  replace o8 := o8.lh k28
  replace hB := hB.trans k28
  refine bC 10 rfl rfl rfl rfl rfl ?_
  refine bC 15 rfl rfl rfl rfl rfl ?_
  refine aq 4 rfl rfl rfl rfl (fun W' kk => an (cs' := [_, _, _, _, _, _, _]) df dH rfl (Bk.lh hbz kk) rfl rfl) ?_
  refine bC 10 rfl rfl rfl rfl rfl ?_
  refine bC 15 rfl rfl rfl rfl rfl ?_
  refine bb 145 146 rfl rfl rfl rfl rfl (fun W' kk => bR aC bE rfl (by first | exact Rd.lh ‹_› kk | exact Rd.lh (Own.rd ‹_›) kk | exact Rd.lh (Rd.lh ‹_› hB) kk | exact Rd.lh (Own.rd (Own.lh ‹_› hB)) kk) rfl (by omega)) ?_
  refine aq 147 rfl rfl rfl rfl (fun W' kk => dN bW rfl (by first | exact Rd.lh ‹_› kk | exact Rd.lh (Own.rd ‹_›) kk | exact Rd.lh (Rd.lh ‹_› hB) kk | exact Rd.lh (Own.rd (Own.lh ‹_› hB)) kk) rfl) ?_
  refine bC 1 rfl rfl rfl rfl rfl ?_
  refine bC 15 rfl rfl rfl rfl rfl ?_
  refine bb 149 150 rfl rfl rfl rfl rfl (fun W' kk => bR aC bE rfl (Rd.lh (hs.lh hB) kk) rfl (by constructor <;> first | omega | (show (_ : Int) < 8; omega))) ?_
  refine aq 151 rfl rfl rfl rfl (fun W' kk => aw (v' := .int .u64 ((W6 s.e).toNat : Int)) (cE (l := (wm (de s))) 4 bW rfl (Rd.lh (hs.lh hB) kk) rfl (bD rfl)) rfl) ?_
  refine bb 148 152 rfl rfl rfl rfl rfl (fun W' kk => ct rfl rfl) ?_
  refine dK [(144, _), (153, _)] rfl rfl ⟨rfl, rfl, trivial⟩ rfl (a7 (vs := [_, _]) rfl (cS _ _ _ _ _ _ _ ((X.e) + (s.e)) (by (try rw [da _ eO]); simp only [dh, BitVec.setWidth_xor, BitVec.setWidth_and, BitVec.setWidth_not (show 32 ≤ 64 by decide), eE]) _)) ?_
  rintro _ w30 ⟨rfl, k29⟩
  refine ⟨k29, ?_⟩
  replace hbz := hbz.lh k29
  replace o8 := o8.lh k29
  replace hB := hB.trans k29
  refine cY ?_
  refine a4 (bR aC bE rfl (by first | assumption | exact Own.rd ‹_› | exact Rd.lh ‹_› hB | exact Own.rd (Own.lh ‹_› hB)) rfl (by omega)) rfl ?_
  refine am (fK (u := .int .u64 ((W6 ((X.e) + (s.e))).toNat : Int)) bE rfl rfl rfl o8 (bD rfl)) ?_
  rintro _ w31 ⟨o9, k30, z8⟩
  have z_k30 := k30.size
  replace o9 : Own w31 _ 100 1 o 8 [.int .u64 ((W6 ((X.a) + (s.a))).toNat : Int), .int .u64 ((W6 ((X.b) + (s.b))).toNat : Int), .int .u64 ((W6 ((X.c) + (s.c))).toNat : Int), .int .u64 ((W6 ((X.d) + (s.d))).toNat : Int), .int .u64 ((W6 ((X.e) + (s.e))).toNat : Int), .int .u64 ((W6 X.f).toNat : Int), .int .u64 ((W6 X.g).toNat : Int), .int .u64 ((W6 X.h).toNat : Int)] := o9
  replace hbz := hbz.keep k30 (fun hm => hno _ hm rfl)
  replace hB := hB.new k30 (fun x hx => .inl (go_o x hx))
  clear z_k30 z8
  refine aZ (ab [(10, _), (15, _), (4, _), (1, _)] ⟨rfl, rfl, rfl, rfl, trivial⟩ ?_)
  refine bg (aX (ogm rfl rfl (a4 (ak (j := 5) (bk rfl rfl) (by decide)) rfl ?_)))
  refine oga rfl rfl (aZ (cW (aY (aY (aX (ogm rfl rfl ?_))))))
  refine a4 (bO rfl rfl) rfl ?_
  refine aZ (bj rfl (by decide) ?_)
  refine a8 (aY (ag (cH 13 [0, 1, 2, 3, 4, 5, 6, 7, 8, 9, 10, 11, 12] [12] [] mixed [(10, _), (15, _), (4, _), (1, _)] ⟨rfl, rfl, rfl, rfl, trivial⟩ (by decide +kernel) rfl (fun w32 k31 => ?_))))
  replace hbz := hbz.lh k31
  replace o9 := o9.lh k31
  replace hB := hB.trans k31
  refine bC 10 rfl rfl rfl rfl rfl ?_
  refine bC 15 rfl rfl rfl rfl rfl ?_
  refine aq 4 rfl rfl rfl rfl (fun W' kk => an (cs' := [_, _, _, _, _, _, _]) df dH rfl (Bk.lh hbz kk) rfl rfl) ?_
  refine bC 10 rfl rfl rfl rfl rfl ?_
  refine bC 15 rfl rfl rfl rfl rfl ?_
  refine bb 145 146 rfl rfl rfl rfl rfl (fun W' kk => bR aC bE rfl (by first | exact Rd.lh ‹_› kk | exact Rd.lh (Own.rd ‹_›) kk | exact Rd.lh (Rd.lh ‹_› hB) kk | exact Rd.lh (Own.rd (Own.lh ‹_› hB)) kk) rfl (by omega)) ?_
  refine aq 147 rfl rfl rfl rfl (fun W' kk => dN bW rfl (by first | exact Rd.lh ‹_› kk | exact Rd.lh (Own.rd ‹_›) kk | exact Rd.lh (Rd.lh ‹_› hB) kk | exact Rd.lh (Own.rd (Own.lh ‹_› hB)) kk) rfl) ?_
  refine bC 1 rfl rfl rfl rfl rfl ?_
  refine bC 15 rfl rfl rfl rfl rfl ?_
  refine bb 149 150 rfl rfl rfl rfl rfl (fun W' kk => bR aC bE rfl (Rd.lh (hs.lh hB) kk) rfl (by constructor <;> first | omega | (show (_ : Int) < 8; omega))) ?_
  refine aq 151 rfl rfl rfl rfl (fun W' kk => aw (v' := .int .u64 ((W6 s.f).toNat : Int)) (cE (l := (wm (de s))) 5 bW rfl (Rd.lh (hs.lh hB) kk) rfl (bD rfl)) rfl) ?_
  refine bb 148 152 rfl rfl rfl rfl rfl (fun W' kk => ct rfl rfl) ?_
  refine dK [(144, _), (153, _)] rfl rfl ⟨rfl, rfl, trivial⟩ rfl (a7 (vs := [_, _]) rfl (cS _ _ _ _ _ _ _ ((X.f) + (s.f)) (by (try rw [da _ eO]); simp only [dh, BitVec.setWidth_xor, BitVec.setWidth_and, BitVec.setWidth_not (show 32 ≤ 64 by decide), eE]) _)) ?_
  rintro _ w33 ⟨rfl, k32⟩
  refine ⟨k32, ?_⟩
  replace hbz := hbz.lh k32
  replace o9 := o9.lh k32
  replace hB := hB.trans k32
  refine cY ?_
  refine a4 (bR aC bE rfl (by first | assumption | exact Own.rd ‹_› | exact Rd.lh ‹_› hB | exact Own.rd (Own.lh ‹_› hB)) rfl (by omega)) rfl ?_
  refine am (fK (u := .int .u64 ((W6 ((X.f) + (s.f))).toNat : Int)) bE rfl rfl rfl o9 (bD rfl)) ?_
  rintro _ w34 ⟨o10, k33, z9⟩
  have z_k33 := k33.size
  replace o10 : Own w34 _ 100 1 o 8 [.int .u64 ((W6 ((X.a) + (s.a))).toNat : Int), .int .u64 ((W6 ((X.b) + (s.b))).toNat : Int), .int .u64 ((W6 ((X.c) + (s.c))).toNat : Int), .int .u64 ((W6 ((X.d) + (s.d))).toNat : Int), .int .u64 ((W6 ((X.e) + (s.e))).toNat : Int), .int .u64 ((W6 ((X.f) + (s.f))).toNat : Int), .int .u64 ((W6 X.g).toNat : Int), .int .u64 ((W6 X.h).toNat : Int)] := o10
  replace hbz := hbz.keep k33 (fun hm => hno _ hm rfl)
  replace hB := hB.new k33 (fun x hx => .inl (go_o x hx))
  clear z_k33 z9
  refine aZ (ab [(10, _), (15, _), (4, _), (1, _)] ⟨rfl, rfl, rfl, rfl, trivial⟩ ?_)
  refine bg (aX (ogm rfl rfl (a4 (ak (j := 6) (bk rfl rfl) (by decide)) rfl ?_)))
  refine oga rfl rfl (aZ (cW (aY (aY (aX (ogm rfl rfl ?_))))))
  refine a4 (bO rfl rfl) rfl ?_
  refine aZ (bj rfl (by decide) ?_)
  refine a8 (aY (ag (cH 13 [0, 1, 2, 3, 4, 5, 6, 7, 8, 9, 10, 11, 12] [12] [] mixed [(10, _), (15, _), (4, _), (1, _)] ⟨rfl, rfl, rfl, rfl, trivial⟩ (by decide +kernel) rfl (fun w35 k34 => ?_))))
  replace hbz := hbz.lh k34
  replace o10 := o10.lh k34
  replace hB := hB.trans k34
  refine bC 10 rfl rfl rfl rfl rfl ?_
  refine bC 15 rfl rfl rfl rfl rfl ?_
  refine aq 4 rfl rfl rfl rfl (fun W' kk => an (cs' := [_, _, _, _, _, _, _]) df dH rfl (Bk.lh hbz kk) rfl rfl) ?_
  refine bC 10 rfl rfl rfl rfl rfl ?_
  refine bC 15 rfl rfl rfl rfl rfl ?_
  refine bb 145 146 rfl rfl rfl rfl rfl (fun W' kk => bR aC bE rfl (by first | exact Rd.lh ‹_› kk | exact Rd.lh (Own.rd ‹_›) kk | exact Rd.lh (Rd.lh ‹_› hB) kk | exact Rd.lh (Own.rd (Own.lh ‹_› hB)) kk) rfl (by omega)) ?_
  refine aq 147 rfl rfl rfl rfl (fun W' kk => dN bW rfl (by first | exact Rd.lh ‹_› kk | exact Rd.lh (Own.rd ‹_›) kk | exact Rd.lh (Rd.lh ‹_› hB) kk | exact Rd.lh (Own.rd (Own.lh ‹_› hB)) kk) rfl) ?_
  refine bC 1 rfl rfl rfl rfl rfl ?_
  refine bC 15 rfl rfl rfl rfl rfl ?_
  refine bb 149 150 rfl rfl rfl rfl rfl (fun W' kk => bR aC bE rfl (Rd.lh (hs.lh hB) kk) rfl (by constructor <;> first | omega | (show (_ : Int) < 8; omega))) ?_
  refine aq 151 rfl rfl rfl rfl (fun W' kk => aw (v' := .int .u64 ((W6 s.g).toNat : Int)) (cE (l := (wm (de s))) 6 bW rfl (Rd.lh (hs.lh hB) kk) rfl (bD rfl)) rfl) ?_
  refine bb 148 152 rfl rfl rfl rfl rfl (fun W' kk => ct rfl rfl) ?_
  refine dK [(144, _), (153, _)] rfl rfl ⟨rfl, rfl, trivial⟩ rfl (a7 (vs := [_, _]) rfl (cS _ _ _ _ _ _ _ ((X.g) + (s.g)) (by (try rw [da _ eO]); simp only [dh, BitVec.setWidth_xor, BitVec.setWidth_and, BitVec.setWidth_not (show 32 ≤ 64 by decide), eE]) _)) ?_
  rintro _ w36 ⟨rfl, k35⟩
  refine ⟨k35, ?_⟩
  replace hbz := hbz.lh k35
  replace o10 := o10.lh k35
  replace hB := hB.trans k35
  refine cY ?_
  refine a4 (bR aC bE rfl (by first | assumption | exact Own.rd ‹_› | exact Rd.lh ‹_› hB | exact Own.rd (Own.lh ‹_› hB)) rfl (by omega)) rfl ?_
  refine am (fK (u := .int .u64 ((W6 ((X.g) + (s.g))).toNat : Int)) bE rfl rfl rfl o10 (bD rfl)) ?_
  rintro _ w37 ⟨o11, k36, z10⟩
  have z_k36 := k36.size
  replace o11 : Own w37 _ 100 1 o 8 [.int .u64 ((W6 ((X.a) + (s.a))).toNat : Int), .int .u64 ((W6 ((X.b) + (s.b))).toNat : Int), .int .u64 ((W6 ((X.c) + (s.c))).toNat : Int), .int .u64 ((W6 ((X.d) + (s.d))).toNat : Int), .int .u64 ((W6 ((X.e) + (s.e))).toNat : Int), .int .u64 ((W6 ((X.f) + (s.f))).toNat : Int), .int .u64 ((W6 ((X.g) + (s.g))).toNat : Int), .int .u64 ((W6 X.h).toNat : Int)] := o11
  replace hbz := hbz.keep k36 (fun hm => hno _ hm rfl)
  replace hB := hB.new k36 (fun x hx => .inl (go_o x hx))
  clear z_k36 z10
  refine aZ (ab [(10, _), (15, _), (4, _), (1, _)] ⟨rfl, rfl, rfl, rfl, trivial⟩ ?_)
  refine bg (aX (ogm rfl rfl (a4 (ak (j := 7) (bk rfl rfl) (by decide)) rfl ?_)))
  refine oga rfl rfl (aZ (cW (aY (aY (aX (ogm rfl rfl ?_))))))
  refine a4 (bO rfl rfl) rfl ?_
  refine aZ (bj rfl (by decide) ?_)
  refine a8 (aY (ag (cH 13 [0, 1, 2, 3, 4, 5, 6, 7, 8, 9, 10, 11, 12] [12] [] mixed [(10, _), (15, _), (4, _), (1, _)] ⟨rfl, rfl, rfl, rfl, trivial⟩ (by decide +kernel) rfl (fun w38 k37 => ?_))))
  replace hbz := hbz.lh k37
  replace o11 := o11.lh k37
  replace hB := hB.trans k37
  refine bC 10 rfl rfl rfl rfl rfl ?_
  refine bC 15 rfl rfl rfl rfl rfl ?_
  refine aq 4 rfl rfl rfl rfl (fun W' kk => an (cs' := [_, _, _, _, _, _, _]) df dH rfl (Bk.lh hbz kk) rfl rfl) ?_
  refine bC 10 rfl rfl rfl rfl rfl ?_
  refine bC 15 rfl rfl rfl rfl rfl ?_
  refine bb 145 146 rfl rfl rfl rfl rfl (fun W' kk => bR aC bE rfl (by first | exact Rd.lh ‹_› kk | exact Rd.lh (Own.rd ‹_›) kk | exact Rd.lh (Rd.lh ‹_› hB) kk | exact Rd.lh (Own.rd (Own.lh ‹_› hB)) kk) rfl (by omega)) ?_
  refine aq 147 rfl rfl rfl rfl (fun W' kk => dN bW rfl (by first | exact Rd.lh ‹_› kk | exact Rd.lh (Own.rd ‹_›) kk | exact Rd.lh (Rd.lh ‹_› hB) kk | exact Rd.lh (Own.rd (Own.lh ‹_› hB)) kk) rfl) ?_
  refine bC 1 rfl rfl rfl rfl rfl ?_
  refine bC 15 rfl rfl rfl rfl rfl ?_
  refine bb 149 150 rfl rfl rfl rfl rfl (fun W' kk => bR aC bE rfl (Rd.lh (hs.lh hB) kk) rfl (by constructor <;> first | omega | (show (_ : Int) < 8; omega))) ?_
  refine aq 151 rfl rfl rfl rfl (fun W' kk => aw (v' := .int .u64 ((W6 s.h).toNat : Int)) (cE (l := (wm (de s))) 7 bW rfl (Rd.lh (hs.lh hB) kk) rfl (bD rfl)) rfl) ?_
  refine bb 148 152 rfl rfl rfl rfl rfl (fun W' kk => ct rfl rfl) ?_
  refine dK [(144, _), (153, _)] rfl rfl ⟨rfl, rfl, trivial⟩ rfl (a7 (vs := [_, _]) rfl (cS _ _ _ _ _ _ _ ((X.h) + (s.h)) (by (try rw [da _ eO]); simp only [dh, BitVec.setWidth_xor, BitVec.setWidth_and, BitVec.setWidth_not (show 32 ≤ 64 by decide), eE]) _)) ?_
  rintro _ w39 ⟨rfl, k38⟩
  refine ⟨k38, ?_⟩
  replace hbz := hbz.lh k38
  replace o11 := o11.lh k38
  replace hB := hB.trans k38
  refine cY ?_
  refine a4 (bR aC bE rfl (by first | assumption | exact Own.rd ‹_› | exact Rd.lh ‹_› hB | exact Own.rd (Own.lh ‹_› hB)) rfl (by omega)) rfl ?_
  refine am (fK (u := .int .u64 ((W6 ((X.h) + (s.h))).toNat : Int)) bE rfl rfl rfl o11 (bD rfl)) ?_
  rintro _ w40 ⟨o12, k39, z11⟩
  have z_k39 := k39.size
  replace o12 : Own w40 _ 100 1 o 8 [.int .u64 ((W6 ((X.a) + (s.a))).toNat : Int), .int .u64 ((W6 ((X.b) + (s.b))).toNat : Int), .int .u64 ((W6 ((X.c) + (s.c))).toNat : Int), .int .u64 ((W6 ((X.d) + (s.d))).toNat : Int), .int .u64 ((W6 ((X.e) + (s.e))).toNat : Int), .int .u64 ((W6 ((X.f) + (s.f))).toNat : Int), .int .u64 ((W6 ((X.g) + (s.g))).toNat : Int), .int .u64 ((W6 ((X.h) + (s.h))).toNat : Int)] := o12
  replace hB := hB.new k39 (fun x hx => .inl (go_o x hx))
  clear z_k39 z11
  refine aZ (ab [(10, _), (15, _), (4, _), (1, _)] ⟨rfl, rfl, rfl, rfl, trivial⟩ ?_)
  refine bg (aX (ogm rfl rfl (a4 (ak (j := 8) (bk rfl rfl) (by decide)) rfl ?_)))
  refine oga rfl rfl (aZ (cW (aY (aY (aX (ogm rfl rfl ?_))))))
  refine a4 (bO rfl rfl) rfl ?_
  refine aZ (co rfl (by decide) ?_)
  refine bN rfl ?_
  refine aY (aX (ogm rfl rfl (oga rfl rfl (aZ (af hfin Tryd.results79 rfl ?_)))))
  have e : de (blk bf Kl bs s) = [X.a + s.a, X.b + s.b, X.c + s.c, X.d + s.d, X.e + s.e, X.f + s.f, X.g + s.g, X.h + s.h] := by unfold blk; rw [show bf.R = 64 from rfl, show 64 - 16 = 48 from rfl, ← hX]; simp only [plus8, de]; rw [BitVec.add_comm s.a, BitVec.add_comm s.b, BitVec.add_comm s.c, BitVec.add_comm s.d, BitVec.add_comm s.e, BitVec.add_comm s.f, BitVec.add_comm s.g, BitVec.add_comm s.h]
  refine ⟨?_, hB⟩
  rw [e]; exact o12
theorem jW (w : World) : Rets Tryd.prog 77 [] w (fun v w' => OwnW w' w.heap.size v (KB Hl) ∧ Keep [] w w') := by
 have hB : Keep [] w w := Keep.refl _ _
 refine ad Tryd.func77 rfl (by decide) Tryd.ntmps77 rfl (fun fin _ hfin => ?_)
 refine aY (aX (oga rfl rfl (aZ (aY (aX (ah (dA (m := 8) (xs := [.const (.int .u64 (7640891576956012808)), .const (.int .u64 (13503953896175478587)), .const (.int .u64 (4354685564936845355)), .const (.int .u64 (11912009170470909681)), .const (.int .u64 (5840696475078001361)), .const (.int .u64 (11170449401992604703)), .const (.int .u64 (2270897969802886507)), .const (.int .u64 (6620516959819538809))]) (vs := [_, _, _, _, _, _, _, _]) aC bE (by decide) rfl rfl rfl (by simp only [List.forall_mem_cons]; exact ⟨rfl, rfl, rfl, rfl, rfl, rfl, rfl, rfl, fun v hv => by cases hv⟩) (by decide)) rfl ?_))))))
 rintro v1 w1 ⟨o1, nn1, lb1, k1, z1⟩
 replace hB := hB.trans k1
 refine oga rfl rfl (aZ (af hfin Tryd.results77 rfl ?_))
 refine ⟨?_, hB⟩
 have e : wc (KB Hl) = [.int .u64 7640891576956012808, .int .u64 13503953896175478587, .int .u64 4354685564936845355, .int .u64 11912009170470909681, .int .u64 5840696475078001361, .int .u64 11170449401992604703, .int .u64 2270897969802886507, .int .u64 6620516959819538809] := by kernel_rfl
 unfold OwnW
 rw [e]; exact o1
theorem gc (w : World) : Rets Tryd.prog 76 [] w (fun v w' => OwnW w' w.heap.size v (KB Kl) ∧ Keep [] w w') := by
 have hB : Keep [] w w := Keep.refl _ _
 refine ad Tryd.func76 rfl (by decide) Tryd.ntmps76 rfl (fun fin _ hfin => ?_)
 refine aY (aX (oga rfl rfl (aZ (aY (aX (ah (dA (m := 80) (xs := [.const (.int .u64 (4794697086780616226)), .const (.int .u64 (8158064640168781261)), .const (.int .u64 (13096744586834688815)), .const (.int .u64 (16840607885511220156)), .const (.int .u64 (4131703408338449720)), .const (.int .u64 (6480981068601479193)), .const (.int .u64 (10538285296894168987)), .const (.int .u64 (12329834152419229976)), .const (.int .u64 (15566598209576043074)), .const (.int .u64 (1334009975649890238)), .const (.int .u64 (2608012711638119052)), .const (.int .u64 (6128411473006802146)), .const (.int .u64 (8268148722764581231)), .const (.int .u64 (9286055187155687089)), .const (.int .u64 (11230858885718282805)), .const (.int .u64 (13951009754708518548)), .const (.int .u64 (16472876342353939154)), .const (.int .u64 (17275323862435702243)), .const (.int .u64 (1135362057144423861)), .const (.int .u64 (2597628984639134821)), .const (.int .u64 (3308224258029322869)), .const (.int .u64 (5365058923640841347)), .const (.int .u64 (6679025012923562964)), .const (.int .u64 (8573033837759648693)), .const (.int .u64 (10970295158949994411)), .const (.int .u64 (12119686244451234320)), .const (.int .u64 (12683024718118986047)), .const (.int .u64 (13788192230050041572)), .const (.int .u64 (14330467153632333762)), .const (.int .u64 (15395433587784984357)), .const (.int .u64 (489312712824947311)), .const (.int .u64 (1452737877330783856)), .const (.int .u64 (2861767655752347644)), .const (.int .u64 (3322285676063803686)), .const (.int .u64 (5560940570517711597)), .const (.int .u64 (5996557281743188959)), .const (.int .u64 (7280758554555802590)), .const (.int .u64 (8532644243296465576)), .const (.int .u64 (9350256976987008742)), .const (.int .u64 (10552545826968843579)), .const (.int .u64 (11727347734174303076)), .const (.int .u64 (12113106623233404929)), .const (.int .u64 (14000437183269869457)), .const (.int .u64 (14369950271660146224)), .const (.int .u64 (15101387698204529176)), .const (.int .u64 (15463397548674623760)), .const (.int .u64 (17586052441742319658)), .const (.int .u64 (1182934255886127544)), .const (.int .u64 (1847814050463011016)), .const (.int .u64 (2177327727835720531)), .const (.int .u64 (2830643537854262169)), .const (.int .u64 (3796741975233480872)), .const (.int .u64 (4115178125766777443)), .const (.int .u64 (5681478168544905931)), .const (.int .u64 (6601373596472566643)), .const (.int .u64 (7507060721942968483)), .const (.int .u64 (8399075790359081724)), .const (.int .u64 (8693463985226723168)), .const (.int .u64 (9568029438360202098)), .const (.int .u64 (10144078919501101548)), .const (.int .u64 (10430055236837252648)), .const (.int .u64 (11840083180663258601)), .const (.int .u64 (13761210420658862357)), .const (.int .u64 (14299343276471374635)), .const (.int .u64 (14566680578165727644)), .const (.int .u64 (15097957966210449927)), .const (.int .u64 (16922976911328602910)), .const (.int .u64 (17689382322260857208)), .const (.int .u64 (500013540394364858)), .const (.int .u64 (748580250866718886)), .const (.int .u64 (1242879168328830382)), .const (.int .u64 (1977374033974150939)), .const (.int .u64 (2944078676154940804)), .const (.int .u64 (3659926193048069267)), .const (.int .u64 (4368137639120453308)), .const (.int .u64 (4836135668995329356)), .const (.int .u64 (5532061633213252278)), .const (.int .u64 (6448918945643986474)), .const (.int .u64 (6902733635092675308)), .const (.int .u64 (7801388544844847127))]) (vs := [_, _, _, _, _, _, _, _, _, _, _, _, _, _, _, _, _, _, _, _, _, _, _, _, _, _, _, _, _, _, _, _, _, _, _, _, _, _, _, _, _, _, _, _, _, _, _, _, _, _, _, _, _, _, _, _, _, _, _, _, _, _, _, _, _, _, _, _, _, _, _, _, _, _, _, _, _, _, _, _]) aC bE (by decide) rfl rfl rfl (by simp only [List.forall_mem_cons]; exact ⟨rfl, rfl, rfl, rfl, rfl, rfl, rfl, rfl, rfl, rfl, rfl, rfl, rfl, rfl, rfl, rfl, rfl, rfl, rfl, rfl, rfl, rfl, rfl, rfl, rfl, rfl, rfl, rfl, rfl, rfl, rfl, rfl, rfl, rfl, rfl, rfl, rfl, rfl, rfl, rfl, rfl, rfl, rfl, rfl, rfl, rfl, rfl, rfl, rfl, rfl, rfl, rfl, rfl, rfl, rfl, rfl, rfl, rfl, rfl, rfl, rfl, rfl, rfl, rfl, rfl, rfl, rfl, rfl, rfl, rfl, rfl, rfl, rfl, rfl, rfl, rfl, rfl, rfl, rfl, rfl, fun v hv => by cases hv⟩) (by decide)) rfl ?_))))))
 rintro v1 w1 ⟨o1, nn1, lb1, k1, z1⟩
 replace hB := hB.trans k1
 refine oga rfl rfl (aZ (af hfin Tryd.results76 rfl ?_))
 refine ⟨?_, hB⟩
 have e : wc (KB Kl) = [.int .u64 4794697086780616226, .int .u64 8158064640168781261, .int .u64 13096744586834688815, .int .u64 16840607885511220156, .int .u64 4131703408338449720, .int .u64 6480981068601479193, .int .u64 10538285296894168987, .int .u64 12329834152419229976, .int .u64 15566598209576043074, .int .u64 1334009975649890238, .int .u64 2608012711638119052, .int .u64 6128411473006802146, .int .u64 8268148722764581231, .int .u64 9286055187155687089, .int .u64 11230858885718282805, .int .u64 13951009754708518548, .int .u64 16472876342353939154, .int .u64 17275323862435702243, .int .u64 1135362057144423861, .int .u64 2597628984639134821, .int .u64 3308224258029322869, .int .u64 5365058923640841347, .int .u64 6679025012923562964, .int .u64 8573033837759648693, .int .u64 10970295158949994411, .int .u64 12119686244451234320, .int .u64 12683024718118986047, .int .u64 13788192230050041572, .int .u64 14330467153632333762, .int .u64 15395433587784984357, .int .u64 489312712824947311, .int .u64 1452737877330783856, .int .u64 2861767655752347644, .int .u64 3322285676063803686, .int .u64 5560940570517711597, .int .u64 5996557281743188959, .int .u64 7280758554555802590, .int .u64 8532644243296465576, .int .u64 9350256976987008742, .int .u64 10552545826968843579, .int .u64 11727347734174303076, .int .u64 12113106623233404929, .int .u64 14000437183269869457, .int .u64 14369950271660146224, .int .u64 15101387698204529176, .int .u64 15463397548674623760, .int .u64 17586052441742319658, .int .u64 1182934255886127544, .int .u64 1847814050463011016, .int .u64 2177327727835720531, .int .u64 2830643537854262169, .int .u64 3796741975233480872, .int .u64 4115178125766777443, .int .u64 5681478168544905931, .int .u64 6601373596472566643, .int .u64 7507060721942968483, .int .u64 8399075790359081724, .int .u64 8693463985226723168, .int .u64 9568029438360202098, .int .u64 10144078919501101548, .int .u64 10430055236837252648, .int .u64 11840083180663258601, .int .u64 13761210420658862357, .int .u64 14299343276471374635, .int .u64 14566680578165727644, .int .u64 15097957966210449927, .int .u64 16922976911328602910, .int .u64 17689382322260857208, .int .u64 500013540394364858, .int .u64 748580250866718886, .int .u64 1242879168328830382, .int .u64 1977374033974150939, .int .u64 2944078676154940804, .int .u64 3659926193048069267, .int .u64 4368137639120453308, .int .u64 4836135668995329356, .int .u64 5532061633213252278, .int .u64 6448918945643986474, .int .u64 6902733635092675308, .int .u64 7801388544844847127] := by kernel_rfl
 unfold OwnW
 rw [e]; exact o1
theorem jU (w : World) : Rets Tryd.prog 67 [] w (fun v w' => ∃ l0 l1 u0 u1, v = .agg [.int .i64 32, .int .i64 64, .int .i64 64, l0, l1, u0, u1].toArray ∧ Rd w' 1 l0 3 [.int .i64 7, .int .i64 18, .int .i64 3] ∧ Rd w' 1 l1 3 [.int .i64 17, .int .i64 19, .int .i64 10] ∧ Rd w' 1 u0 3 [.int .i64 2, .int .i64 13, .int .i64 22] ∧ Rd w' 1 u1 3 [.int .i64 6, .int .i64 11, .int .i64 25] ∧ Keep [] w w') := by
 have hB : Keep [] w w := Keep.refl _ _
 refine ad Tryd.func67 rfl (by decide) Tryd.ntmps67 rfl (fun fin _ hfin => ?_)
 refine aY (aX (ah (cI dH) rfl ?_))
 rintro _ w1 ⟨b1, rfl, eb1, hb1, k1, z1⟩
 have ge_b1 : w.heap.size ≤ b1 := by have := hB.size; omega
 replace hB := hB.trans k1
 clear eb1 z1
 refine aZ (aY (aX (ah (dA (m := 3) (xs := [.const (.int .i64 (7)), .const (.int .i64 (18)), .const (.int .i64 (3))]) (vs := [_, _, _]) aT bJ (by decide) rfl rfl rfl (by simp only [List.forall_mem_cons]; exact ⟨rfl, rfl, rfl, fun v hv => by cases hv⟩) (by decide)) rfl ?_)))
 rintro v1 w2 ⟨o1, nn1, lb1, k2, z2⟩
 have gl_o1 := hB.size
 have sb_b1_o1 := fun x hx => (show x ≠ b1 from by have h1 := (o1.blk x hx).1; have h2 := hb1.lt; omega)
 replace hb1 := hb1.lh k2
 replace hB := hB.trans k2
 refine ah (dA (m := 3) (xs := [.const (.int .i64 (17)), .const (.int .i64 (19)), .const (.int .i64 (10))]) (vs := [_, _, _]) aT bJ (by decide) rfl rfl rfl (by simp only [List.forall_mem_cons]; exact ⟨rfl, rfl, rfl, fun v hv => by cases hv⟩) (by decide)) rfl ?_
 rintro v2 w3 ⟨o2, nn2, lb2, k3, z3⟩
 have gl_o2 := hB.size
 have sb_b1_o2 := fun x hx => (show x ≠ b1 from by have h1 := (o2.blk x hx).1; have h2 := hb1.lt; omega)
 replace hb1 := hb1.lh k3
 replace o1 := o1.lh k3
 replace hB := hB.trans k3
 refine ah (dA (m := 3) (xs := [.const (.int .i64 (2)), .const (.int .i64 (13)), .const (.int .i64 (22))]) (vs := [_, _, _]) aT bJ (by decide) rfl rfl rfl (by simp only [List.forall_mem_cons]; exact ⟨rfl, rfl, rfl, fun v hv => by cases hv⟩) (by decide)) rfl ?_
 rintro v3 w4 ⟨o3, nn3, lb3, k4, z4⟩
 have gl_o3 := hB.size
 have sb_b1_o3 := fun x hx => (show x ≠ b1 from by have h1 := (o3.blk x hx).1; have h2 := hb1.lt; omega)
 replace hb1 := hb1.lh k4
 replace o1 := o1.lh k4
 replace o2 := o2.lh k4
 replace hB := hB.trans k4
 refine ah (dA (m := 3) (xs := [.const (.int .i64 (6)), .const (.int .i64 (11)), .const (.int .i64 (25))]) (vs := [_, _, _]) aT bJ (by decide) rfl rfl rfl (by simp only [List.forall_mem_cons]; exact ⟨rfl, rfl, rfl, fun v hv => by cases hv⟩) (by decide)) rfl ?_
 rintro v4 w5 ⟨o4, nn4, lb4, k5, z5⟩
 have gl_o4 := hB.size
 have sb_b1_o4 := fun x hx => (show x ≠ b1 from by have h1 := (o4.blk x hx).1; have h2 := hb1.lt; omega)
 replace hb1 := hb1.lh k5
 replace o1 := o1.lh k5
 replace o2 := o2.lh k5
 replace o3 := o3.lh k5
 replace hB := hB.trans k5
 refine a4 (cL (idx := [0, 1, 2, 3, 4, 5, 6]) (xs := [.const (.int .i64 32), .const (.int .i64 64), .const (.int .i64 64), .tmp 1, .tmp 2, .tmp 3, .tmp 4]) (vs := [_, _, _, _, _, _, _]) (css := [[_], [_], [_], [_], [_], [_], [_]]) (out := [.int .i64 32, .int .i64 64, .int .i64 64, v1, v2, v3, v4]) pl86 dH rfl rfl ⟨rfl, rfl, rfl, Rd.cells (Own.rd o1), Rd.cells (Own.rd o2), Rd.cells (Own.rd o3), Rd.cells (Own.rd o4), trivial⟩ rfl rfl) rfl ?_
 refine am (bU dH rfl rfl rfl (by simp only [List.forall_mem_cons]; exact ⟨rfl, rfl, rfl, o1.rd.one, o2.rd.one, o3.rd.one, o4.rd.one, fun v hv => by cases hv⟩) hb1 rfl) ?_
 rintro _ w6 ⟨hb2, k6, z6⟩
 replace o1 := o1.keep k6 (fun x hx hm => sb_b1_o1 x hx (List.mem_singleton.1 hm))
 replace o2 := o2.keep k6 (fun x hx hm => sb_b1_o2 x hx (List.mem_singleton.1 hm))
 replace o3 := o3.keep k6 (fun x hx hm => sb_b1_o3 x hx (List.mem_singleton.1 hm))
 replace o4 := o4.keep k6 (fun x hx hm => sb_b1_o4 x hx (List.mem_singleton.1 hm))
 replace hB := hB.new k6 (nw ge_b1)
 clear z6
 replace hb2 : Bk w6 b1 _ [.int .i64 32, .int .i64 64, .int .i64 64, v1, v2, v3, v4] := hb2
 refine aZ (fW hfin Tryd.results67 rfl (ao df dH hb2 rfl)  ?_)
 exact ⟨_, _, _, _, rfl, o1.rd, o2.rd, o3.rd, o4.rd, hB⟩
theorem iU (l0 l1 u0 u1 : Value) (v : Value) (xs : List UInt8) (w : World) (hv : RdB w v xs) (hx : xs.length ≤ 140737488354000) : Rets Tryd.prog 78 [.agg [.int .i64 32, .int .i64 64, .int .i64 64, l0, l1, u0, u1].toArray, v] w (fun r w' => OwnB w' w.heap.size r (pad 32 xs) ∧ Keep [] w w') := by
 have hB : Keep [] w w := Keep.refl _ _
 have hz := gJ (n := 32) (len := xs.length) (by decide) (by decide)
 refine ad Tryd.func78 rfl (by decide) Tryd.ntmps78 rfl (fun fin _ hfin => ?_)
 refine aY (aX (ah (bz (cs := [.int .i64 32, .int .i64 64, .int .i64 64, l0, l1, u0, u1]) rfl rfl) rfl ?_))
 rintro _ w1 ⟨b1, rfl, eb1, hb1, k1, z1⟩
 have ge_b1 : w.heap.size ≤ b1 := by have := hB.size; omega
 replace hB := hB.trans k1
 clear eb1 z1
 refine oga rfl rfl (aZ (aY (aX (ah (dA (m := 0) (xs := []) (vs := []) aA bu (by decide) rfl rfl rfl (by first | (simp; done) | (intro v hv; rw [List.mem_singleton] at hv; subst hv; rfl)) (by decide)) rfl ?_))))
 rintro v1 w2 ⟨o1, nn1, lb1, k2, z2⟩
 have gl_o1 := hB.size
 have sb_b1_o1 := fun x hx => (show x ≠ b1 from by have h1 := (o1.blk x hx).1; have h2 := hb1.lt; omega)
 replace hb1 := hb1.lh k2
 replace hB := hB.trans k2
 replace o1 : Own w2 _ _ 1 v1 0 (bv []) := o1
 refine ogm rfl rfl ?_
 replace o1 := o1.lo gl_o1
 have lt_b1_o2 := hb1.lt
 refine ah (bS (xs := []) (ys := xs) aA bu rfl (show Own _ _ _ 1 _ 0 (bv []) from o1) rfl (hv.lh hB) (by omega) (by have := hB.size; omega)) rfl ?_
 rintro v2 w3 ⟨o2, k3, lb2, _⟩
 replace hB := hB.new k3 (fun x hx => .inl (o1.blk x hx).1)
 replace hb1 := hb1.keep k3 (fun hm => sb_b1_o1 _ hm rfl)
 have sb_b1_o2 := fun x hx => (lb2 x hx).elim (sb_b1_o1 x) (fun h => (show x ≠ b1 from by omega))
 replace o2 : OwnB w3 w.heap.size v2 xs := by unfold OwnB; simpa using o2
 refine ah (dA (m := 1) (xs := [.const (.int .u8 (128))]) (vs := [_]) aA bu (by decide) rfl rfl rfl (by first | (simp; done) | (intro v hv; rw [List.mem_singleton] at hv; subst hv; rfl)) (by decide)) rfl ?_
 rintro v3 w4 ⟨o3, nn2, lb3, k4, z3⟩
 have gl_o3 := hB.size
 replace hb1 := hb1.lh k4
 replace o2 := o2.lh k4
 replace hB := hB.trans k4
 replace o3 : Own w4 _ _ 1 v3 1 (bv [128]) := o3
 have lt_b1_o4 := hb1.lt
 refine ah (bS (xs := xs) (ys := [128]) aA bu rfl (show OwnB _ _ _ _ from o2) rfl (show RdB _ _ _ from o3.rd) (by simp only [List.length_singleton]; omega) (by have := hB.size; omega)) rfl ?_
 rintro v4 w5 ⟨o4, k5, lb4, _⟩
 replace hB := hB.new k5 (fun x hx => .inl (o2.blk x hx).1)
 replace hb1 := hb1.keep k5 (fun hm => sb_b1_o2 _ hm rfl)
 have sb_b1_o4 := fun x hx => (lb4 x hx).elim (sb_b1_o2 x) (fun h => (show x ≠ b1 from by omega))
 replace o4 : OwnB w5 w.heap.size v4 ((xs ++ 128 :: List.replicate 0 0)) := by unfold OwnB; rw [List.replicate_zero, List.length_append]; exact o4
 refine oga rfl rfl (aZ (aY (ag (bT (Γ := Nat × Value) (fun ⟨j, o⟩ => [(1, v), (2, .pointer (some ⟨b1, 0, none⟩)), (5, o)]) (fun ⟨j, o⟩ W => j ≤ zs 32 xs.length ∧ OwnB W w.heap.size o (xs ++ 128 :: List.replicate j 0) ∧ (∀ x, x ∈ vblk o → x ≠ b1) ∧ Bk W b1 86 [.int .i64 32, .int .i64 64, .int .i64 64, l0, l1, u0, u1] ∧ Keep [] w W) (fun ⟨j, o⟩ => zs 32 xs.length - j) ⟨0, v4⟩ ⟨rfl, rfl, rfl, trivial⟩ (⟨by omega, o4, sb_b1_o4, hb1, hB⟩) ?_))))
 rintro ⟨j, o⟩ w6 ⟨hj0, ow, hno, hbz, hB⟩
 refine ab [(1, v), (2, .pointer (some ⟨b1, 0, none⟩)), (5, o)] ⟨rfl, rfl, rfl, trivial⟩ ?_
 have hlo : (xs ++ 128 :: List.replicate j 0).length = xs.length + 1 + j := by rw [List.length_append, List.length_cons, List.length_replicate]; omega
 refine aY (aY (aX (ogm rfl rfl (a4 (aw (v' := .int .i64 ((xs.length + 1 + j : Nat) : Int)) (bI aA rfl ow.rd) (by rw [hlo])) rfl ?_))))
 refine a4 (aj 1 aQ rfl bJ (by decide) rfl rfl) rfl ?_
 refine a4 (ac bZ rfl hbz rfl) rfl ?_
 refine a4 (ak (j := 8) (iE rfl rfl (by decide)) (by decide)) rfl ?_
 refine a4 (br rfl rfl (by omega)) rfl ?_
 refine a4 (aj 1 aQ rfl bJ (by decide) rfl rfl) rfl ?_
 refine a4 (ac bZ rfl hbz rfl) rfl ?_
 refine a4 (g_rem rfl rfl (by omega)) rfl ?_
 refine a4 (cC rfl rfl) rfl ?_
 refine aZ (ar rfl (fun hc1 => ?_) (fun hc1 => ?_))
 ·
  refine a8 (ag (aX (ogm rfl rfl (ah (dA (m := 1) (xs := [.const (.int .u8 (0))]) (vs := [_]) aA bu (by decide) rfl rfl rfl (by first | (simp; done) | (intro v hv; rw [List.mem_singleton] at hv; subst hv; rfl)) (by decide)) rfl ?_))))
  rintro v5 w7 ⟨o5, nn3, lb5, k6, z4⟩
  have gl_o5 := hB.size
  replace ow := ow.lh k6
  replace hbz := hbz.lh k6
  replace hB := hB.trans k6
  replace o5 : Own w7 _ _ 1 v5 1 (bv [0]) := o5
  have lt_b1_o6 := hbz.lt
  refine ah (bS (xs := (xs ++ 128 :: List.replicate j 0)) (ys := [0]) aA bu rfl (show OwnB _ _ _ _ from ow) rfl (show RdB _ _ _ from o5.rd) (by rw [hlo]; simp only [List.length_singleton]; omega) (by have := hB.size; omega)) rfl ?_
  rintro v6 w8 ⟨o6, k7, lb6, _⟩
  replace hB := hB.new k7 (fun x hx => .inl (ow.blk x hx).1)
  replace hbz := hbz.keep k7 (fun hm => hno _ hm rfl)
  have sb_b1_o6 := fun x hx => (lb6 x hx).elim (hno x) (fun h => (show x ≠ b1 from by omega))
  replace o6 : OwnB w8 w.heap.size v6 ((xs ++ 128 :: List.replicate (j + 1) 0)) := by unfold OwnB; rw [zstep, List.length_append]; exact o6
  refine oga rfl rfl (aZ (ab [(1, _), (2, _), (5, _)] ⟨rfl, rfl, rfl, trivial⟩ ?_))
  refine bg (bd (Γ := Nat × Value) ⟨j + 1, v6⟩ ⟨rfl, rfl, rfl, trivial⟩ (by (try dsimp only); omega) (⟨by omega, o6, sb_b1_o6, hbz, hB⟩))
 ·
  refine bN rfl ?_
  refine aY (aX (ogm rfl rfl (a4 (bI aA rfl (by first | assumption | exact Own.rd ‹_› | exact Rd.lh ‹_› hB | exact Own.rd (Own.lh ‹_› hB))) rfl ?_)))
  obtain rfl : j = zs 32 xs.length := by omega
  refine a4 (aw (v' := .int .u64 (xs.length : Int)) (dY (by rw [aK]; rfl) aR rfl) (by rw [eW, Int.emod_eq_of_lt (by omega) (by omega)])) rfl ?_
  refine a4 (aw (v' := .int .u64 (8 * (xs.length : Int))) (cJ rfl rfl) (by rw [eW, Int.emod_eq_of_lt (by omega) (by omega), Int.mul_comm])) rfl ?_
  refine oga rfl rfl (aZ (ab [(2, _), (5, _), (6, _)] ⟨rfl, rfl, rfl, trivial⟩ ?_))
  refine aY (aY (aX (a4 (aj 1 aQ rfl bJ (by decide) rfl rfl) rfl ?_)))
  refine a4 (ac bZ rfl hbz rfl) rfl ?_
  refine a4 (ak (j := 8) (iE rfl rfl (by decide)) (by decide)) rfl ?_
  refine a4 (ak (j := 7) (bV rfl rfl) (by decide)) rfl ?_
  refine oga rfl rfl (aZ (ag ?_))
  obtain ⟨pz, hpz⟩ : ∃ pz, pz = (xs ++ 128 :: List.replicate (zs 32 xs.length) 0) := ⟨_, rfl⟩
  have hlz : pz.length = xs.length + 1 + zs 32 xs.length := by rw [hpz]; exact hlo
  rw [← hpz] at ow
  refine bT (Γ := Nat × Value) (fun ⟨j, u⟩ => [(5, u), (6, .int .u64 (8 * (xs.length : Int))), (7, .int .i64 (7 - (j : Int)))]) (fun ⟨j, u⟩ W => j ≤ 8 ∧ OwnB W w.heap.size u (pz ++ (be (8 * (xs.length : Int)) 8).take j) ∧ Keep [] w W) (fun ⟨j, u⟩ => 8 - j) ⟨0, _⟩ ⟨rfl, rfl, rfl, trivial⟩ (⟨by omega, by rw [List.take_zero, List.append_nil]; exact ow, hB⟩) ?_
  rintro ⟨j, u⟩ w9 ⟨hj0, ow, hB⟩
  refine ab [(5, u), (6, .int .u64 (8 * (xs.length : Int))), (7, .int .i64 (7 - (j : Int)))] ⟨rfl, rfl, rfl, trivial⟩ ?_
  have hlj : (pz ++ (be (8 * (xs.length : Int)) 8).take j).length = xs.length + 1 + zs 32 xs.length + j := by rw [List.length_append, hlz, List.length_take, bx]; omega
  refine aY (aY (aX (ogm rfl rfl (a4 (fA rfl rfl) rfl ?_))))
  refine aZ (ar rfl (fun hc2 => ?_) (fun hc2 => ?_))
  ·
   refine a8 (aY (ag (aY (aX (ogm rfl rfl (a4 (fA rfl rfl) rfl ?_))))))
   refine aZ (ar rfl (fun hc3 => ?_) (fun hc3 => ?_))
   ·
    refine aX (ogm rfl rfl (ah (dA (m := 1) (xs := [.const (.int .u8 (0))]) (vs := [_]) aA bu (by decide) rfl rfl rfl (by first | (simp; done) | (intro v hv; rw [List.mem_singleton] at hv; subst hv; rfl)) (by decide)) rfl ?_))
    rintro v7 w10 ⟨o7, nn4, lb7, k8, z5⟩
    have gl_o7 := hB.size
    replace ow := ow.lh k8
    replace hB := hB.trans k8
    replace o7 : Own w10 _ _ 1 v7 1 (bv [0]) := o7
    have e1 : (be (8 * (xs.length : Int)) 8).take (j + 1) = (be (8 * (xs.length : Int)) 8).take j ++ [0] := bl (by exfalso; omega)
    refine ah (bS (xs := (pz ++ (be (8 * (xs.length : Int)) 8).take j)) (ys := [0]) aA bu rfl (show OwnB _ _ _ _ from ow) rfl (show RdB _ _ _ from o7.rd) (by rw [hlj]; simp only [List.length_singleton]; omega) (by have := hB.size; omega)) rfl ?_
    rintro v8 w11 ⟨o8, k9, lb8, _⟩
    replace hB := hB.new k9 (fun x hx => .inl (ow.blk x hx).1)
    replace o8 : OwnB w11 w.heap.size v8 (pz ++ (be (8 * (xs.length : Int)) 8).take (j + 1)) := by unfold OwnB; rw [e1, ← List.append_assoc, List.length_append]; exact o8
    refine oga rfl rfl (aZ (bg (aX (ogm rfl rfl (a4 (aw (v' := .int .i64 (7 - ((j + 1 : Nat) : Int))) (cy rfl rfl (by omega)) (by congr 1; omega)) rfl ?_)))))
    refine oga rfl rfl (aZ (bd (Γ := Nat × Value) ⟨j + 1, v8⟩ ⟨rfl, rfl, rfl, trivial⟩ (by (try dsimp only); omega) (⟨by omega, o8, hB⟩)))
   ·
    refine aX (ogm rfl rfl (ogm rfl rfl (ogm rfl rfl (a4 (f7 rfl rfl (by omega)) rfl ?_))))
    refine a4 (eh (by rw [aK]; rfl) aP rfl (by omega)) rfl ?_
    refine a4 (ez rfl rfl ⟨by omega, (show _ ≤ ((64 : Nat) : Int) from by omega)⟩) rfl ?_
    refine a4 (dY (by rw [aR]; rfl) aI rfl) rfl ?_
    refine ah (dA (m := 1) (xs := [.tmp 49]) (vs := [_]) aA bu (by decide) rfl rfl rfl (by first | (simp; done) | (intro v hv; rw [List.mem_singleton] at hv; subst hv; rfl)) (by decide)) rfl ?_
    rintro v9 w12 ⟨o9, nn5, lb9, k10, z6⟩
    have gl_o9 := hB.size
    replace ow := ow.lh k10
    replace hB := hB.trans k10
    have hby : IntKind.u8.wrap ((8 * (xs.length : Int)) / 2 ^ (8 * (7 - (j : Int))).toNat) = ((byteAt (8 * (xs.length : Int)) (7 - j)).toNat : Int) := by rw [cF, IntKind.wrap_u8]; congr 3; omega
    replace o9 := eU o9 hby
    have e1 : (be (8 * (xs.length : Int)) 8).take (j + 1) = (be (8 * (xs.length : Int)) 8).take j ++ [byteAt (8 * (xs.length : Int)) (7 - j)] := bl (by simp only [be, List.getElem?_map]; rw [List.getElem?_range (by omega)]; rfl)
    refine ah (bS (xs := (pz ++ (be (8 * (xs.length : Int)) 8).take j)) (ys := [byteAt (8 * (xs.length : Int)) (7 - j)]) aA bu rfl (show OwnB _ _ _ _ from ow) rfl (show RdB _ _ _ from o9.rd) (by rw [hlj]; simp only [List.length_singleton]; omega) (by have := hB.size; omega)) rfl ?_
    rintro v10 w13 ⟨o10, k11, lb10, _⟩
    replace hB := hB.new k11 (fun x hx => .inl (ow.blk x hx).1)
    replace o10 : OwnB w13 w.heap.size v10 (pz ++ (be (8 * (xs.length : Int)) 8).take (j + 1)) := by unfold OwnB; rw [e1, ← List.append_assoc, List.length_append]; exact o10
    refine oga rfl rfl (aZ (ab [(5, _), (6, _), (7, _)] ⟨rfl, rfl, rfl, trivial⟩ ?_))
    refine bg (aX (ogm rfl rfl (a4 (aw (v' := .int .i64 (7 - ((j + 1 : Nat) : Int))) (cy rfl rfl (by omega)) (by congr 1; omega)) rfl ?_)))
    refine oga rfl rfl (aZ (bd (Γ := Nat × Value) ⟨j + 1, v10⟩ ⟨rfl, rfl, rfl, trivial⟩ (by (try dsimp only); omega) (⟨by omega, o10, hB⟩)))
  ·
   refine bN rfl ?_
   refine aY (aX (ogm rfl rfl (oga rfl rfl (aZ (af hfin Tryd.results78 rfl ?_)))))
   obtain rfl : j = 8 := by omega
   have e : pad 32 xs = pz ++ (be (8 * (xs.length : Int)) 8).take 8 := by rw [hpz, iw, List.take_of_length_le (by rw [bx]; decide)]
   refine ⟨?_, hB⟩
   rw [e]; exact ow
theorem jT (l0 l1 u0 u1 : Value) (v : Value) (xs : List UInt8) (w : World) (hl0 : Rd w 1 l0 3 [.int .i64 7, .int .i64 18, .int .i64 3]) (hl1 : Rd w 1 l1 3 [.int .i64 17, .int .i64 19, .int .i64 10]) (hu0 : Rd w 1 u0 3 [.int .i64 2, .int .i64 13, .int .i64 22]) (hu1 : Rd w 1 u1 3 [.int .i64 6, .int .i64 11, .int .i64 25]) (hv : RdB w v xs) (hx : xs.length ≤ 140737488354000) : Rets Tryd.prog 68 [.agg [.int .i64 32, .int .i64 64, .int .i64 64, l0, l1, u0, u1].toArray, v] w (fun r w' => OwnB w' w.heap.size r (Sha.sum bf Kl Hl xs) ∧ Keep [] w w') := by
  have hB : Keep [] w w := Keep.refl _ _
  have hhl : (KB Hl).length = 8 := rfl
  refine ad Tryd.func68 rfl (by decide) Tryd.ntmps68 rfl (fun fin _ hfin => ?_)
  refine aY ?_
  refine aX ?_
  refine ah (bz (cs := [.int .i64 32, .int .i64 64, .int .i64 64, l0, l1, u0, u1]) rfl rfl) rfl ?_
  rintro _ w1 ⟨b1, rfl, eb1, hb1, k1, z1⟩
  have ge_b1 : w.heap.size ≤ b1 := by have := hB.size; omega
  replace hB := hB.trans k1
  clear eb1 z1
  refine oga rfl rfl ?_
  refine aZ ?_
  refine aY ?_
  refine aX ?_
  refine ah (a7 (vs := []) rfl (gc _)) rfl ?_
  rintro v1 w2 ⟨o1, k2⟩
  have gl_o1 := hB.size
  replace hb1 := hb1.lh k2
  replace hB := hB.trans k2
  refine oga rfl rfl ?_
  refine aZ ?_
  refine aY ?_
  refine aX ?_
  refine ah (a7 (vs := []) rfl (jW _)) rfl ?_
  rintro v2 w3 ⟨o2, k3⟩
  have gl_o2 := hB.size
  replace hb1 := hb1.lh k3
  replace o1 := o1.lh k3
  replace hB := hB.trans k3
  refine oga rfl rfl ?_
  refine aZ ?_
  refine aY ?_
  refine aX ?_
  refine oga rfl rfl ?_
  refine aZ ?_
  refine aY ?_
  refine aY ?_
  refine aX ?_
  refine oga rfl rfl ?_
  refine aZ ?_
  refine ag ?_
  obtain ⟨Z, hZ⟩ : ∃ Z, Z = w3.heap.size := ⟨_, rfl⟩
  have zb : b1 < Z := by have := hb1.lt; omega
  have zo_oK : ∀ x, x ∈ vblk v1 → x < Z := fun x hx => by have := (o1.blk x hx).2; omega
  have zo_oH : ∀ x, x ∈ vblk v2 → x < Z := fun x hx => by have := (o2.blk x hx).2; omega
  have zw : w.heap.size ≤ Z := by have := hB.size; omega
  have oK := o1.lo gl_o1; have oH := o2.lo gl_o2
  refine bT (Γ := Nat × Value) (fun ⟨i, o⟩ => [(1, v), (2, .pointer (some ⟨b1, 0, none⟩)), (5, v1), (6, v2), (7, o), (8, .int .i64 (i : Int))]) (fun ⟨i, o⟩ W => i ≤ 8 ∧ OwnW W Z o (wm ((List.range i).map (cst 32 Hl))) ∧ OwnW W w.heap.size v1 (KB Kl) ∧ OwnW W w.heap.size v2 (KB Hl) ∧ Bk W b1 86 [.int .i64 32, .int .i64 64, .int .i64 64, l0, l1, u0, u1] ∧ Z ≤ W.heap.size ∧ Keep [] w W) (fun ⟨i, o⟩ => 8 - i) ⟨0, .slice none 0 0⟩ ⟨rfl, rfl, rfl, rfl, rfl, rfl, trivial⟩ (⟨by omega, a9 _ _ _ _, oK, oH, hb1, by omega, hB⟩) ?_
  rintro ⟨i, o⟩ w4 ⟨hi0, ow, oK, oH, hbz, hZs, hB⟩
  refine ab [(1, v), (2, .pointer (some ⟨b1, 0, none⟩)), (5, v1), (6, v2), (7, o), (8, .int .i64 (i : Int))] ⟨rfl, rfl, rfl, rfl, rfl, rfl, trivial⟩ ?_
  have hwl : (wm ((List.range i).map (cst 32 Hl))).length = i := by simp [wm]
  refine aY ?_
  refine aY ?_
  refine aX ?_
  refine ogm rfl rfl ?_
  refine a4 (bO rfl rfl) rfl ?_
  refine aZ ?_
  refine ar rfl (fun hc1 => ?_) (fun hc1 => ?_)
  · -- yes
    refine a8 ?_
    refine aY ?_
    refine ag ?_
    refine cR 11 [0, 1, 2, 3, 4, 5, 6, 7, 8, 9, 10] [10] [] [] mixed [(7, _), (6, _), (8, _), (2, _), (1, _), (5, _)] ⟨rfl, rfl, rfl, rfl, rfl, rfl, trivial⟩ (by decide +kernel) (by decide) (by decide) ?_ (fun x hx => by cases hx) rfl (fun w5 k4 => ?_)
    · intro q hq; cases hq
    replace ow := ow.lh k4
    replace oK := oK.lh k4
    replace oH := oH.lh k4
    replace hbz := hbz.lh k4
    replace hB := hB.trans k4
    refine cM 7 rfl rfl rfl rfl rfl ?_
    refine cM 6 rfl rfl rfl rfl rfl ?_
    refine cM 8 rfl rfl rfl rfl rfl ?_
    refine cZ 21 22 rfl rfl rfl rfl rfl (fun W' kk => bR aC bE rfl (Rd.lh oH.rd kk) rfl (by first | omega | (rw [dB]; omega))) ?_
    refine bY 23 rfl rfl rfl rfl (fun W' kk => cE (l := (KB Hl)) i bW rfl (Rd.lh oH.rd kk) rfl (by omega)) ?_
    refine bY 2 rfl rfl rfl rfl (fun W' kk => aj 0 aQ rfl bJ (by decide) rfl rfl) ?_
    refine bY 25 rfl rfl rfl rfl (fun W' kk => ac bZ rfl (Bk.lh hbz kk) rfl) ?_
    refine bY 26 rfl rfl rfl rfl (fun W' kk => ak (j := 32) (bV rfl rfl) (by decide)) ?_
    refine bY 27 rfl rfl rfl rfl (fun W' kk => ak (j := 32) (dY (by rw [aK]; rfl) aP rfl) (by decide)) ?_
    refine cZ 24 28 rfl rfl rfl rfl rfl (fun W' kk => dm 32 rfl rfl rfl (by decide)) ?_
    refine ix [(29, _)] rfl rfl ⟨rfl, trivial⟩ rfl (fun w7 k6 => ?_)
    replace ow := ow.lh k6
    replace oK := oK.lh k6
    replace oH := oH.lh k6
    replace hbz := hbz.lh k6
    replace hB := hB.trans k6
    refine (dA (m := 1) (xs := [.tmp 29]) (vs := [_]) aC bE (by decide) rfl rfl rfl (by first | (simp; done) | (intro v hv; rw [List.mem_singleton] at hv; subst hv; rfl)) (by decide)).mono ?_
    rintro v3 w6 ⟨o3, nn1, lb1, k5, z2⟩
    refine ⟨k5, (fun x hx => ⟨.inr (o3.blk x (o3.rd.cblk ▸ hx)).1, (o3.blk x (o3.rd.cblk ▸ hx)).2⟩), ?_⟩
    have gl_o3 := hB.size
    replace ow := ow.lh k5
    replace oK := oK.lh k5
    replace oH := oH.lh k5
    replace hbz := hbz.lh k5
    replace hB := hB.trans k5
    refine dc (fun w8 k7 => ?_)
    replace ow := ow.lh k7
    replace oK := oK.lh k7
    replace oH := oH.lh k7
    replace hbz := hbz.lh k7
    replace o3 := o3.lh k7
    replace hB := hB.trans k7
    refine cT ?_
    have zk4 := k4.size
    have zk5 := k5.size
    have zk6 := k6.size
    have zk7 := k7.size
    refine ah (i1 (ys := [W6 (cst 32 Hl i)]) aC bE rfl rfl ow rfl (show RdW _ _ _ from by rw [← da Hl ff]; exact o3.rd) (by simp only [List.length_singleton] at *; omega) (by omega)) rfl ?_
    rintro v4 w9 ⟨o4, k8, lb2⟩
    replace hB := hB.new k8 (fun x hx => .inl (by have h1 := (ow.blk x hx).1; omega))
    replace hZs : Z ≤ w9.heap.size := by have h9 := k8.size; omega
    replace oK := oK.keep k8 (fun x hx hm => by have h1 := (ow.blk x hm).1; have h2 := zo_oK x hx; omega)
    replace oH := oH.keep k8 (fun x hx hm => by have h1 := (ow.blk x hm).1; have h2 := zo_oH x hx; omega)
    replace hbz := hbz.keep k8 (fun hm => by have h1 := (ow.blk _ hm).1; omega)
    replace o4 : OwnW w9 Z v4 (wm ((List.range i).map (cst 32 Hl)) ++ [W6 (cst 32 Hl i)]) := by unfold OwnW; rw [List.length_append]; exact o4
    refine oga rfl rfl ?_
    refine aZ ?_
    refine ab [(7, _), (6, _), (8, _), (2, _), (1, _), (5, _)] ⟨rfl, rfl, rfl, rfl, rfl, rfl, trivial⟩ ?_
    refine bg ?_
    refine aX ?_
    refine ogm rfl rfl ?_
    refine a4 (br rfl rfl (by omega)) rfl ?_
    refine oga rfl rfl ?_
    refine aZ ?_
    refine bd (Γ := Nat × Value) ⟨i + 1, v4⟩ ⟨rfl, rfl, rfl, rfl, rfl, rfl, trivial⟩ (by (try dsimp only); omega) (⟨by omega, by rw [List.range_succ, List.map_append, jK]; exact o4, oK, oH, hbz, hZs, hB⟩)
  · -- no
    refine bN rfl ?_
    refine aY ?_
    refine aX ?_
    refine a4 (an (cs' := [_, _, _, _, _, _, _]) df dH rfl hbz rfl rfl) rfl ?_
    refine ogm rfl rfl ?_
    refine ah (a7 (vs := [_, _]) rfl (iU _ _ _ _ _ xs _ (hv.lh hB) hx)) rfl ?_
    rintro v5 w10 ⟨o5, k9⟩
    have gl_o5 := hB.size
    replace ow := ow.lh k9
    replace oK := oK.lh k9
    replace oH := oH.lh k9
    replace hbz := hbz.lh k9
    replace hB := hB.trans k9
    refine oga rfl rfl ?_
    refine aZ ?_
    refine aY ?_
    refine aY ?_
    refine aX ?_
    refine oga rfl rfl ?_
    refine aZ ?_
    refine ag ?_
    obtain rfl : i = 8 := by omega
    have hPM := fY xs; have hPL := iu xs
    obtain ⟨M, hM⟩ : ∃ M, M = ((pad 32 xs).length / (2 * 32)) := ⟨_, rfl⟩
    rw [← hM] at hPM
    have oP := o5.lo gl_o5
    refine bT (Γ := Nat × S8 32 × Value) (fun ⟨m, X, o⟩ => [(2, .pointer (some ⟨b1, 0, none⟩)), (5, v1), (7, o), (9, v5), (10, .int .i64 (64 * (m : Int)))]) (fun ⟨m, X, o⟩ W => m ≤ M ∧ blks bf Kl (M - m) ((pad 32 xs).drop (64 * m)) X = blks bf Kl M (pad 32 xs) (st8 32 Hl) ∧ OwnW W w.heap.size o (wm (de X)) ∧ OwnW W w.heap.size v1 (KB Kl) ∧ OwnB W w.heap.size v5 (pad 32 xs) ∧ Bk W b1 86 [.int .i64 32, .int .i64 64, .int .i64 64, l0, l1, u0, u1] ∧ Keep [] w W) (fun ⟨m, X, o⟩ => M - m) ⟨0, st8 32 Hl, o⟩ ⟨rfl, rfl, rfl, rfl, rfl, trivial⟩ (⟨by omega, rfl, ow.lo zw, oK, oP, hbz, hB⟩) ?_
    rintro ⟨m, X, o⟩ w11 ⟨hm0, heq, ow, oK, oP, hbz, hB⟩
    refine ab [(2, .pointer (some ⟨b1, 0, none⟩)), (5, v1), (7, o), (9, v5), (10, .int .i64 (64 * (m : Int)))] ⟨rfl, rfl, rfl, rfl, rfl, trivial⟩ ?_
    have hcu := oP.rd.vcap
    have hlu : ((pad 32 xs).drop (64 * m)).length = (pad 32 xs).length - 64 * m := List.length_drop
    refine aY ?_
    refine aY ?_
    refine aX ?_
    refine ogm rfl rfl ?_
    refine ogm rfl rfl ?_
    refine a4 (aw (v' := .int .i64 ((pad 32 xs).length : Int)) (bI aA rfl oP.rd) rfl) rfl ?_
    refine a4 (bO rfl rfl) rfl ?_
    refine aZ ?_
    refine ar rfl (fun hc2 => ?_) (fun hc2 => ?_)
    · -- yes
      refine a8 ?_
      refine aY ?_
      refine ag ?_
      refine cH 11 [0, 1, 2, 3, 4, 5, 6, 7, 8, 9, 10] [10] [] mixed [(2, _), (7, _), (5, _), (9, _), (10, _)] ⟨rfl, rfl, rfl, rfl, rfl, trivial⟩ (by decide +kernel) rfl (fun w12 k10 => ?_)
      replace ow := ow.lh k10
      replace oK := oK.lh k10
      replace oP := oP.lh k10
      replace hbz := hbz.lh k10
      replace hB := hB.trans k10
      refine aq 2 rfl rfl rfl rfl (fun W' kk => an (cs' := [_, _, _, _, _, _, _]) df dH rfl (Bk.lh hbz kk) rfl rfl) ?_
      refine bC 7 rfl rfl rfl rfl rfl ?_
      refine bC 5 rfl rfl rfl rfl rfl ?_
      refine bC 9 rfl rfl rfl rfl rfl ?_
      refine bC 10 rfl rfl rfl rfl rfl ?_
      refine bC 10 rfl rfl rfl rfl rfl ?_
      refine aq 2 rfl rfl rfl rfl (fun W' kk => aj 1 aQ rfl bJ (by decide) rfl rfl) ?_
      refine aq 49 rfl rfl rfl rfl (fun W' kk => ac bZ rfl (Bk.lh hbz kk) rfl) ?_
      refine bb 48 50 rfl rfl rfl rfl rfl (fun W' kk => br rfl rfl (by omega)) ?_
      have hge : 64 * m + 64 ≤ (pad 32 xs).length := by omega
      refine pw_g [(46, _), (47, _), (51, _)] rfl rfl ⟨rfl, rfl, rfl, trivial⟩ rfl (fun W' kk => aw (v' := (cut v5 (64 * m) (64 * m + 64) 1)) (ek aA bu rfl (Rd.lh oP.rd kk) (.inr ⟨_, _, rfl, rfl⟩) (.inr ⟨_, _, rfl, rfl⟩) ⟨by omega, by omega, by omega⟩) (by rw [show ((64 : Int) * (m : Int)).toNat = 64 * m from by omega, show ((64 : Int) * (m : Int) + 64).toNat = 64 * m + 64 from by omega])) ?_
      refine dK [(43, _), (44, _), (45, _), (52, _)] rfl rfl ⟨rfl, rfl, rfl, rfl, trivial⟩ rfl (a7 (vs := [_, _, _, _]) rfl (iS _ _ _ _ _ _ _ ((pad 32 xs).drop (64 * m) |>.take 64) X _ (hl0.lh hB) (hl1.lh hB) (hu0.lh hB) (hu1.lh hB) ow.rd oK.rd (by have := oP.rd.cutB (l := 64 * m) (hi := 64 * m + 64) (by omega) (by omega); rw [show 64 * m + 64 - 64 * m = 64 from by omega] at this; exact this) (by rw [List.length_take, hlu]; omega))) ?_
      rintro v6 w13 ⟨o6, k11⟩
      refine ⟨k11, ?_⟩
      have gl_o6 := hB.size
      replace ow := ow.lh k11
      replace oK := oK.lh k11
      replace oP := oP.lh k11
      replace hbz := hbz.lh k11
      replace hB := hB.trans k11
      refine cY ?_
      refine oga rfl rfl ?_
      refine aZ ?_
      refine ab [(2, _), (7, _), (5, _), (9, _), (10, _)] ⟨rfl, rfl, rfl, rfl, rfl, trivial⟩ ?_
      refine bg ?_
      refine aX ?_
      refine ogm rfl rfl ?_
      refine a4 (aj 1 aQ rfl bJ (by decide) rfl rfl) rfl ?_
      refine a4 (ac bZ rfl hbz rfl) rfl ?_
      refine a4 (aw (v' := .int .i64 (64 * ((m + 1 : Nat) : Int))) (br rfl rfl (by omega)) (congrArg (Value.int .i64) (by omega))) rfl ?_
      refine oga rfl rfl ?_
      refine aZ ?_
      refine bd (Γ := Nat × S8 32 × Value) ⟨m + 1, blk bf Kl (((pad 32 xs).drop (64 * m)).take 64) X, v6⟩ ⟨rfl, rfl, rfl, rfl, rfl, trivial⟩ (by (try dsimp only); omega) (⟨by omega, by rw [← heq, gF (show 0 < M - m from by omega), List.drop_drop]; rfl, o6.lo gl_o6, oK, oP, hbz, hB⟩)
    · -- no
      refine bN rfl ?_
      refine aY ?_
      refine aX ?_
      refine oga rfl rfl ?_
      refine aZ ?_
      refine aY ?_
      refine aY ?_
      refine aX ?_
      refine oga rfl rfl ?_
      refine aZ ?_
      refine ag ?_
      obtain rfl : m = M := by omega
      rw [Nat.sub_self] at heq
      obtain ⟨Z2, hZ2⟩ : ∃ Z, Z = w11.heap.size := ⟨_, rfl⟩
      have zb2 : b1 < Z2 := by have := hbz.lt; omega
      have zo_ow : ∀ x, x ∈ vblk o → x < Z2 := fun x hx => by have := (ow.blk x hx).2; omega
      have zw2 : w.heap.size ≤ Z2 := by have := hB.size; omega
      refine bT (Γ := Nat × Value) (fun ⟨i, q⟩ => [(2, .pointer (some ⟨b1, 0, none⟩)), (7, o), (11, q), (12, .int .i64 (i : Int))]) (fun ⟨i, q⟩ W => i ≤ 8 ∧ OwnB W Z2 q (((de X).take i).flatMap fun x => be (x.toNat : Int) 4) ∧ OwnW W w.heap.size o (wm (de X)) ∧ Bk W b1 86 [.int .i64 32, .int .i64 64, .int .i64 64, l0, l1, u0, u1] ∧ Z2 ≤ W.heap.size ∧ Keep [] w W) (fun ⟨i, q⟩ => 8 - i) ⟨0, .slice none 0 0⟩ ⟨rfl, rfl, rfl, rfl, trivial⟩ (⟨by omega, a9 _ _ _ _, ow, hbz, by omega, hB⟩) ?_
      rintro ⟨i, q⟩ w14 ⟨hi0, oq, ow, hbz, hZs, hB⟩
      refine ab [(2, .pointer (some ⟨b1, 0, none⟩)), (7, o), (11, q), (12, .int .i64 (i : Int))] ⟨rfl, rfl, rfl, rfl, trivial⟩ ?_
      have hfl : (((de X).take i).flatMap fun x => be (x.toNat : Int) 4).length ≤ 32 := jC X i
      refine aY ?_
      refine aY ?_
      refine aX ?_
      refine ogm rfl rfl ?_
      refine a4 (bO rfl rfl) rfl ?_
      refine aZ ?_
      refine ar rfl (fun hc3 => ?_) (fun hc3 => ?_)
      · -- yes
        refine a8 ?_
        refine aY ?_
        refine ag ?_
        refine aY ?_
        refine aX ?_
        refine a4 (aj 0 aQ rfl bJ (by decide) rfl rfl) rfl ?_
        refine a4 (ac bZ rfl hbz rfl) rfl ?_
        refine a4 (ak (j := 24) (bV rfl rfl) (by decide)) rfl ?_
        refine oga rfl rfl ?_
        refine aZ ?_
        refine ag ?_
        obtain ⟨x, hx⟩ : ∃ x, (de X)[i]? = some x := ⟨_, List.getElem?_eq_getElem (show i < (de X).length from by show i < 8; omega)⟩
        refine bT (Γ := Nat × Value) (fun ⟨j, q'⟩ => [(2, .pointer (some ⟨b1, 0, none⟩)), (7, o), (11, q'), (12, .int .i64 (i : Int)), (13, .int .i64 (24 - 8 * (j : Int)))]) (fun ⟨j, q'⟩ W => j ≤ 4 ∧ OwnB W Z2 q' ((((de X).take i).flatMap fun x => be (x.toNat : Int) 4) ++ (be (x.toNat : Int) 4).take j) ∧ OwnW W w.heap.size o (wm (de X)) ∧ Bk W b1 86 [.int .i64 32, .int .i64 64, .int .i64 64, l0, l1, u0, u1] ∧ Z2 ≤ W.heap.size ∧ Keep [] w W) (fun ⟨j, q'⟩ => 4 - j) ⟨0, q⟩ ⟨rfl, rfl, rfl, rfl, rfl, trivial⟩ (⟨by omega, by rw [List.take_zero, List.append_nil]; exact oq, ow, hbz, hZs, hB⟩) ?_
        rintro ⟨j, q'⟩ w15 ⟨hj0, oq, ow, hbz, hZs, hB⟩
        refine ab [(2, .pointer (some ⟨b1, 0, none⟩)), (7, o), (11, q'), (12, .int .i64 (i : Int)), (13, .int .i64 (24 - 8 * (j : Int)))] ⟨rfl, rfl, rfl, rfl, rfl, trivial⟩ ?_
        refine aY ?_
        refine aY ?_
        refine aX ?_
        refine ogm rfl rfl ?_
        refine a4 (fA rfl rfl) rfl ?_
        refine aZ ?_
        refine ar rfl (fun hc4 => ?_) (fun hc4 => ?_)
        · -- yes
          refine a8 ?_
          refine aY ?_
          refine ag ?_
          refine aX ?_
          refine ogm rfl rfl ?_
          refine ogm rfl rfl ?_
          refine ogm rfl rfl ?_
          refine a4 (bR aC bE rfl ow.rd rfl (by constructor <;> first | omega | (show (_ : Int) < 8; omega))) rfl ?_
          refine a4 (aw (v' := .int .u64 ((x).toNat : Int)) (cE (l := wm (de X)) i bW rfl ow.rd rfl (by show i < 8; omega)) (by rw [fg, eP, List.getD_eq_getElem?_getD, hx]; rfl)) rfl ?_
          refine ogm rfl rfl ?_
          refine a4 (eh (by rw [aK]; rfl) aP rfl (by omega)) rfl ?_
          refine a4 (ez rfl rfl (by constructor <;> (try simp only [IntKind.bits]) <;> omega)) rfl ?_
          refine a4 (dY (by rw [aR]; rfl) aI rfl) rfl ?_
          refine ah (dA (m := 1) (xs := [.tmp 73]) (vs := [_]) aA bu (by decide) rfl rfl rfl (by first | (simp; done) | (intro v hv; rw [List.mem_singleton] at hv; subst hv; rfl)) (by decide)) rfl ?_
          rintro v7 w16 ⟨o7, nn2, lb3, k12, z3⟩
          have gl_o7 := hB.size
          replace oq := oq.lh k12
          replace ow := ow.lh k12
          replace hbz := hbz.lh k12
          replace hB := hB.trans k12
          have hby : IntKind.u8.wrap ((x.toNat : Int) / 2 ^ (24 - 8 * (j : Int)).toNat) = ((byteAt (x.toNat : Int) (3 - j)).toNat : Int) := by rw [cF, IntKind.wrap_u8]; congr 3; omega
          replace o7 := eU o7 hby
          have e1 : (be (x.toNat : Int) 4).take (j + 1) = (be (x.toNat : Int) 4).take j ++ [byteAt (x.toNat : Int) (3 - j)] := bl (by simp only [be, List.getElem?_map]; rw [List.getElem?_range (by omega)]; rfl)
          have hl8 : ((be (x.toNat : Int) 4).take j).length ≤ 4 := by rw [List.length_take, bx]; omega
          have zk12 := k12.size
          refine ah (bS aA bu rfl oq rfl (show RdB _ _ [byteAt (x.toNat : Int) (3 - j)] from o7.rd) (by simp only [List.length_append, List.length_singleton]; omega) (by omega)) rfl ?_
          rintro v8 w17 ⟨o8, k13, lb4, _⟩
          replace hB := hB.new k13 (fun x hx => .inl (by have h1 := (oq.blk x hx).1; omega))
          replace hZs : Z2 ≤ w17.heap.size := by have h9 := k13.size; omega
          replace ow := ow.keep k13 (fun x hx hm => by have h1 := (oq.blk x hm).1; have h2 := zo_ow x hx; omega)
          replace hbz := hbz.keep k13 (fun hm => by have h1 := (oq.blk _ hm).1; omega)
          refine oga rfl rfl ?_
          refine aZ ?_
          refine ab [(2, _), (7, _), (11, _), (12, _), (13, _)] ⟨rfl, rfl, rfl, rfl, rfl, trivial⟩ ?_
          refine bg ?_
          refine aX ?_
          refine ogm rfl rfl ?_
          refine a4 (aw (v' := .int .i64 (24 - 8 * ((j + 1 : Nat) : Int))) (cy rfl rfl (by omega)) (by congr 1; omega)) rfl ?_
          refine oga rfl rfl ?_
          refine aZ ?_
          refine bd (Γ := Nat × Value) ⟨j + 1, v8⟩ ⟨rfl, rfl, rfl, rfl, rfl, trivial⟩ (by (try dsimp only); omega) (⟨by omega, by rw [e1, ← List.append_assoc]; unfold OwnB; rw [List.length_append]; exact o8, ow, hbz, hZs, hB⟩)
        · -- no
          refine bN rfl ?_
          refine bg ?_
          refine aX ?_
          refine ogm rfl rfl ?_
          refine a4 (br rfl rfl (by omega)) rfl ?_
          refine oga rfl rfl ?_
          refine aZ ?_
          obtain rfl : j = 4 := by omega
          rw [List.take_of_length_le (show (be (x.toNat : Int) 4).length ≤ 4 from by rw [bx]; exact Nat.le_refl _)] at oq
          refine bd (Γ := Nat × Value) ⟨i + 1, q'⟩ ⟨rfl, rfl, rfl, rfl, trivial⟩ (by (try dsimp only); omega) (⟨by omega, by rw [gp hx]; exact oq, ow, hbz, hZs, hB⟩)
      · -- no
        refine bN rfl ?_
        refine aY ?_
        refine aX ?_
        refine ogm rfl rfl ?_
        refine oga rfl rfl ?_
        refine aZ ?_
        refine af hfin Tryd.results68 rfl ?_
        obtain rfl : i = 8 := by omega
        rw [List.take_of_length_le (show (de X).length ≤ 8 from Nat.le_refl 8)] at oq
        refine ⟨?_, hB⟩
        unfold Sha.sum
        rw [← hM, ← heq]
        exact oq.lo zw2
def Tabs (w : World) : Prop := Row w ⟨0, 0, none⟩ (iv .u64 8 (wN (KB Hl))) ∧ Row w ⟨1, 0, none⟩ (iv .u64 80 (wN (KB Kl)))
theorem Tabs.keep {S : List Nat} {w w' : World} (h : Tabs w) (k : Keep S w w') (h0 : ∀ x, x ∈ S → 1 < x) : Tabs w' := ⟨h.1.keep k (fun hm => absurd (h0 _ hm) (by decide)), h.2.keep k (fun hm => absurd (h0 _ hm) (by decide))⟩
theorem Tabs.lh {w w' : World} (h : Tabs w) (k : Keep [] w w') : Tabs w' := h.keep k (fun _ hm => by cases hm)
theorem Tabs.cube {w : World} (h : Tabs w) {i : Nat} (hi : i < 80) : w.cell? ⟨1, i, none⟩ = some (.int .u64 (((KB Kl).getD i 0).toNat : Int)) := by
 have := h.2 i _ (cq hi)
 rwa [Addr.add_lit, Nat.zero_add] at this
theorem Tabs.two {w : World} (h : Tabs w) : 1 < w.heap.size := by
 have h1 := World.block_lt_of_cell? _ _ (h.1 0 _ (cq (by decide)))
 have h2 := World.block_lt_of_cell? _ _ (h.2 0 _ (cq (by decide)))
 rw [Addr.add_lit] at h1 h2
 simp only at h1 h2
 omega
theorem em (x : BitVec 32) (r : Nat) (hr : r ≤ 32) (w : World) : Rets Tryd.prog 93 [.int .u32 ((x).toNat : Int), .int .i64 (r : Int), .int .i64 32] w (fun v w' => v = .int .u32 ((tn x r).toNat : Int) ∧ Keep [] w w') := by
 have hB : Keep [] w w := Keep.refl _ _
 refine ad Tryd.func93 rfl (by decide) Tryd.ntmps93 rfl (fun fin _ hfin => ?_)
 refine aY (aX (oga rfl rfl (aZ (aY (fE mixed (by decide +kernel) (fun w1 k1 => ?_))))))
 replace hB := hB.trans k1
 refine dI (av rfl) rfl (dI (av rfl) rfl (dI (lS r rfl rfl rfl hr) rfl ?_))
 refine dI (av rfl) rfl (dI (av rfl) rfl (dI (av rfl) rfl (dI (cy rfl rfl (by omega)) rfl ?_)))
 refine dI (lT (32 - r) rfl rfl (by omega) (by omega)) rfl ?_
 refine dI (gc_or rfl rfl) rfl ?_
 refine dI (ft rfl) rfl (gZ ?_)
 refine aZ (ab [(6, _)] ⟨rfl, trivial⟩ ?_)
 refine af hfin Tryd.results93 rfl ?_
 exact ⟨rfl, hB⟩
theorem iB (p : Nat) (x0 x1 x2 x3 x4 x5 x6 x7 x8 x9 x10 x11 x12 x13 x14 x15 x16 x17 x18 x19 x20 : Value) (x : BitVec 32) (a b c : Nat) (ha : a ≤ 32) (hb : b ≤ 32) (hc : c ≤ 32) (w : World) (hbz : Bk w p 104 [.int .i64 32, x0, x1, x2, x3, x4, x5, x6, x7, x8, x9, x10, x11, x12, x13, x14, x15, x16, x17, x18, x19, x20]) : Rets Tryd.prog 87 [.pointer (some ⟨p, 0, none⟩), .int .u32 ((x).toNat : Int), .agg [.int .i64 (a : Int), .int .i64 (b : Int), .int .i64 (c : Int)].toArray] w (fun v w' => v = .int .u32 ((lo (a, b, c) x).toNat : Int) ∧ Keep [] w w') := by
 have hB : Keep [] w w := Keep.refl _ _
 refine ad Tryd.func87 rfl (by decide) Tryd.ntmps87 rfl (fun fin _ hfin => ?_)
 refine aY (aX (ah (bz (cs := [.int .i64 (a : Int), .int .i64 (b : Int), .int .i64 (c : Int)]) rfl rfl) rfl ?_))
 rintro _ w1 ⟨b1, rfl, eb1, hb1, k1, z1⟩
 have ge_b1 : w.heap.size ≤ b1 := by have := hB.size; omega
 have ne_p_b1 : p ≠ b1 := by have := hbz.lt; omega
 replace hbz := hbz.lh k1
 replace hB := hB.trans k1
 clear eb1 z1
 refine oga rfl rfl (aZ (aY (cH 24 [0, 1, 2, 3, 4, 5, 6, 7, 9, 10, 11, 12, 13, 14, 15, 16, 19, 20, 21, 22, 8, 17, 18, 23] [8, 17] [] mixed [(1, _), (5, _), (0, _), (6, _)] ⟨rfl, rfl, rfl, rfl, trivial⟩ (by decide +kernel) rfl (fun w2 k2 => ?_))))
 replace hbz := hbz.lh k2
 replace hb1 := hb1.lh k2
 replace hB := hB.trans k2
 refine bC 1 rfl rfl rfl rfl rfl ?_
 refine aq 5 rfl rfl rfl rfl (fun W' kk => bG 0 aU bJ rfl rfl (by omega) (by omega)) ?_
 refine aq 8 rfl rfl rfl rfl (fun W' kk => ac bZ rfl (Bk.lh hb1 kk) rfl) ?_
 refine bC 0 rfl rfl rfl rfl rfl ?_
 refine aq 10 rfl rfl rfl rfl (fun W' kk => ai rfl) ?_
 refine aq 11 rfl rfl rfl rfl (fun W' kk => aj 0 aH rfl eY (by decide) rfl rfl) ?_
 refine aq 12 rfl rfl rfl rfl (fun W' kk => aj 0 aM rfl bJ (by decide) rfl rfl) ?_
 refine aq 13 rfl rfl rfl rfl (fun W' kk => ac bZ rfl (Bk.lh hbz kk) rfl) ?_
 refine bC 1 rfl rfl rfl rfl rfl ?_
 refine aq 5 rfl rfl rfl rfl (fun W' kk => bG 1 aU bJ rfl rfl (by omega) (by omega)) ?_
 refine aq 17 rfl rfl rfl rfl (fun W' kk => ac bZ rfl (Bk.lh hb1 kk) rfl) ?_
 refine bC 0 rfl rfl rfl rfl rfl ?_
 refine aq 19 rfl rfl rfl rfl (fun W' kk => ai rfl) ?_
 refine aq 20 rfl rfl rfl rfl (fun W' kk => aj 0 aH rfl eY (by decide) rfl rfl) ?_
 refine aq 21 rfl rfl rfl rfl (fun W' kk => aj 0 aM rfl bJ (by decide) rfl rfl) ?_
 refine aq 22 rfl rfl rfl rfl (fun W' kk => ac bZ rfl (Bk.lh hbz kk) rfl) ?_
 refine bC 1 rfl rfl rfl rfl rfl ?_
 refine aq 5 rfl rfl rfl rfl (fun W' kk => bG 2 aU bJ rfl rfl (by omega) (by omega)) ?_
 refine aq 27 rfl rfl rfl rfl (fun W' kk => ac bZ rfl (Bk.lh hb1 kk) rfl) ?_
 refine bb 26 28 rfl rfl rfl rfl rfl (fun W' kk => lS c rfl rfl rfl hc) ?_
 refine dK [(7, _), (9, _), (14, _)] rfl rfl ⟨rfl, rfl, rfl, trivial⟩ rfl (a7 (vs := [_, _, _]) rfl (em x a ha _)) ?_
 rintro _ w3 ⟨rfl, k3⟩
 refine ⟨k3, ?_⟩
 replace hB := hB.trans k3
 refine dK [(16, _), (18, _), (23, _)] rfl rfl ⟨rfl, rfl, rfl, trivial⟩ rfl (a7 (vs := [_, _, _]) rfl (em x b hb _)) ?_
 rintro _ w4 ⟨rfl, k4⟩
 refine ⟨k4, ?_⟩
 replace hB := hB.trans k4
 refine bb 15 24 rfl rfl rfl rfl rfl (fun W' kk => fO rfl rfl) ?_
 refine bb 25 29 rfl rfl rfl rfl rfl (fun W' kk => fO rfl rfl) ?_
 refine cY ?_
 refine oga rfl rfl (aZ (ab [(6, _)] ⟨rfl, trivial⟩ ?_))
 refine af hfin Tryd.results87 rfl ?_
 exact ⟨rfl, hB⟩
theorem gj (p : Nat) (x0 x1 x2 x3 x4 x5 x6 x7 x8 x9 x10 x11 x12 x13 x14 x15 x16 x17 x18 x19 x20 : Value) (x : BitVec 32) (a b c : Nat) (ha : a ≤ 32) (hb : b ≤ 32) (hc : c ≤ 32) (w : World) (hbz : Bk w p 104 [.int .i64 32, x0, x1, x2, x3, x4, x5, x6, x7, x8, x9, x10, x11, x12, x13, x14, x15, x16, x17, x18, x19, x20]) : Rets Tryd.prog 88 [.pointer (some ⟨p, 0, none⟩), .int .u32 ((x).toNat : Int), .agg [.int .i64 (a : Int), .int .i64 (b : Int), .int .i64 (c : Int)].toArray] w (fun v w' => v = .int .u32 ((hi (a, b, c) x).toNat : Int) ∧ Keep [] w w') := by
 have hB : Keep [] w w := Keep.refl _ _
 refine ad Tryd.func88 rfl (by decide) Tryd.ntmps88 rfl (fun fin _ hfin => ?_)
 refine aY (aX (ah (bz (cs := [.int .i64 (a : Int), .int .i64 (b : Int), .int .i64 (c : Int)]) rfl rfl) rfl ?_))
 rintro _ w1 ⟨b1, rfl, eb1, hb1, k1, z1⟩
 have ge_b1 : w.heap.size ≤ b1 := by have := hB.size; omega
 have ne_p_b1 : p ≠ b1 := by have := hbz.lt; omega
 replace hbz := hbz.lh k1
 replace hB := hB.trans k1
 clear eb1 z1
 refine oga rfl rfl (aZ (aY (cH 29 [0, 1, 2, 3, 4, 5, 6, 7, 9, 10, 11, 12, 13, 14, 15, 16, 19, 20, 21, 22, 23, 24, 25, 26, 8, 17, 18, 27, 28] [8, 17, 27] [] mixed [(1, _), (5, _), (0, _), (6, _)] ⟨rfl, rfl, rfl, rfl, trivial⟩ (by decide +kernel) rfl (fun w2 k2 => ?_))))
 replace hbz := hbz.lh k2
 replace hb1 := hb1.lh k2
 replace hB := hB.trans k2
 refine bC 1 rfl rfl rfl rfl rfl ?_
 refine aq 5 rfl rfl rfl rfl (fun W' kk => bG 0 aU bJ rfl rfl (by omega) (by omega)) ?_
 refine aq 8 rfl rfl rfl rfl (fun W' kk => ac bZ rfl (Bk.lh hb1 kk) rfl) ?_
 refine bC 0 rfl rfl rfl rfl rfl ?_
 refine aq 10 rfl rfl rfl rfl (fun W' kk => ai rfl) ?_
 refine aq 11 rfl rfl rfl rfl (fun W' kk => aj 0 aH rfl eY (by decide) rfl rfl) ?_
 refine aq 12 rfl rfl rfl rfl (fun W' kk => aj 0 aM rfl bJ (by decide) rfl rfl) ?_
 refine aq 13 rfl rfl rfl rfl (fun W' kk => ac bZ rfl (Bk.lh hbz kk) rfl) ?_
 refine bC 1 rfl rfl rfl rfl rfl ?_
 refine aq 5 rfl rfl rfl rfl (fun W' kk => bG 1 aU bJ rfl rfl (by omega) (by omega)) ?_
 refine aq 17 rfl rfl rfl rfl (fun W' kk => ac bZ rfl (Bk.lh hb1 kk) rfl) ?_
 refine bC 0 rfl rfl rfl rfl rfl ?_
 refine aq 19 rfl rfl rfl rfl (fun W' kk => ai rfl) ?_
 refine aq 20 rfl rfl rfl rfl (fun W' kk => aj 0 aH rfl eY (by decide) rfl rfl) ?_
 refine aq 21 rfl rfl rfl rfl (fun W' kk => aj 0 aM rfl bJ (by decide) rfl rfl) ?_
 refine aq 22 rfl rfl rfl rfl (fun W' kk => ac bZ rfl (Bk.lh hbz kk) rfl) ?_
 refine bC 1 rfl rfl rfl rfl rfl ?_
 refine aq 5 rfl rfl rfl rfl (fun W' kk => bG 2 aU bJ rfl rfl (by omega) (by omega)) ?_
 refine aq 27 rfl rfl rfl rfl (fun W' kk => ac bZ rfl (Bk.lh hb1 kk) rfl) ?_
 refine bC 0 rfl rfl rfl rfl rfl ?_
 refine aq 29 rfl rfl rfl rfl (fun W' kk => ai rfl) ?_
 refine aq 30 rfl rfl rfl rfl (fun W' kk => aj 0 aH rfl eY (by decide) rfl rfl) ?_
 refine aq 31 rfl rfl rfl rfl (fun W' kk => aj 0 aM rfl bJ (by decide) rfl rfl) ?_
 refine aq 32 rfl rfl rfl rfl (fun W' kk => ac bZ rfl (Bk.lh hbz kk) rfl) ?_
 refine dK [(7, _), (9, _), (14, _)] rfl rfl ⟨rfl, rfl, rfl, trivial⟩ rfl (a7 (vs := [_, _, _]) rfl (em x a ha _)) ?_
 rintro _ w3 ⟨rfl, k3⟩
 refine ⟨k3, ?_⟩
 replace hB := hB.trans k3
 refine dK [(16, _), (18, _), (23, _)] rfl rfl ⟨rfl, rfl, rfl, trivial⟩ rfl (a7 (vs := [_, _, _]) rfl (em x b hb _)) ?_
 rintro _ w4 ⟨rfl, k4⟩
 refine ⟨k4, ?_⟩
 replace hB := hB.trans k4
 refine bb 15 24 rfl rfl rfl rfl rfl (fun W' kk => fO rfl rfl) ?_
 refine dK [(26, _), (28, _), (33, _)] rfl rfl ⟨rfl, rfl, rfl, trivial⟩ rfl (a7 (vs := [_, _, _]) rfl (em x c hc _)) ?_
 rintro _ w5 ⟨rfl, k5⟩
 refine ⟨k5, ?_⟩
 replace hB := hB.trans k5
 refine bb 25 34 rfl rfl rfl rfl rfl (fun W' kk => fO rfl rfl) ?_
 refine cY ?_
 refine oga rfl rfl (aZ (ab [(6, _)] ⟨rfl, trivial⟩ ?_))
 refine af hfin Tryd.results88 rfl ?_
 exact ⟨rfl, hB⟩
theorem j0 (w : World) : Rets Tryd.prog 74 [] w (fun v w' => v = .agg [.int .i64 32, .int .i64 64, .int .i64 7, .int .i64 18, .int .i64 3, .int .i64 17, .int .i64 19, .int .i64 10, .int .i64 2, .int .i64 13, .int .i64 22, .int .i64 6, .int .i64 11, .int .i64 25].toArray ∧ Keep [] w w') := by
 have hB : Keep [] w w := Keep.refl _ _
 refine ad Tryd.func74 rfl (by decide) Tryd.ntmps74 rfl (fun fin _ hfin => ?_)
 refine aY (aX (ah (cI eY) rfl ?_))
 rintro _ w1 ⟨b1, rfl, eb1, hb1, k1, z1⟩
 have ge_b1 : w.heap.size ≤ b1 := by have := hB.size; omega
 replace hB := hB.trans k1
 clear eb1 z1
 refine aZ (aY (aX (a4 (i0 (idx := [0, 1, 2]) (xs := [.const (.int .i64 (7)), .const (.int .i64 (18)), .const (.int .i64 (3))]) (vs := [_, _, _]) (css := [[.int .i64 7], [.int .i64 18], [.int .i64 3]]) (out := [.int .i64 7, .int .i64 18, .int .i64 3]) aU bJ gG (gT 3 1) rfl rfl ⟨rfl, rfl, rfl, trivial⟩ rfl rfl) rfl ?_)))
 refine a4 (i0 (idx := [0, 1, 2]) (xs := [.const (.int .i64 (17)), .const (.int .i64 (19)), .const (.int .i64 (10))]) (vs := [_, _, _]) (css := [[.int .i64 17], [.int .i64 19], [.int .i64 10]]) (out := [.int .i64 17, .int .i64 19, .int .i64 10]) aU bJ gG (gT 3 1) rfl rfl ⟨rfl, rfl, rfl, trivial⟩ rfl rfl) rfl ?_
 refine a4 (i0 (idx := [0, 1, 2]) (xs := [.const (.int .i64 (2)), .const (.int .i64 (13)), .const (.int .i64 (22))]) (vs := [_, _, _]) (css := [[.int .i64 2], [.int .i64 13], [.int .i64 22]]) (out := [.int .i64 2, .int .i64 13, .int .i64 22]) aU bJ gG (gT 3 1) rfl rfl ⟨rfl, rfl, rfl, trivial⟩ rfl rfl) rfl ?_
 refine a4 (i0 (idx := [0, 1, 2]) (xs := [.const (.int .i64 (6)), .const (.int .i64 (11)), .const (.int .i64 (25))]) (vs := [_, _, _]) (css := [[.int .i64 6], [.int .i64 11], [.int .i64 25]]) (out := [.int .i64 6, .int .i64 11, .int .i64 25]) aU bJ gG (gT 3 1) rfl rfl ⟨rfl, rfl, rfl, trivial⟩ rfl rfl) rfl ?_
 refine a4 (cL (idx := [0, 1, 2, 3, 4, 5]) (xs := [.const (.int .i64 (32)), .const (.int .i64 (64)), .tmp 1, .tmp 2, .tmp 3, .tmp 4]) (vs := [_, _, _, _, _, _]) (css := [[_], [_], [_, _, _], [_, _, _], [_, _, _], [_, _, _]]) (out := [_, _, _, _, _, _, _, _, _, _, _, _, _, _]) pl96 eY rfl rfl ⟨rfl, rfl, rfl, rfl, rfl, rfl, trivial⟩ rfl rfl) rfl ?_
 refine am (bU eY rfl rfl rfl (by simp only [List.forall_mem_cons]; refine ⟨rfl, rfl, rfl, rfl, rfl, rfl, rfl, rfl, rfl, rfl, rfl, rfl, rfl, rfl, fun v hv => by cases hv⟩) hb1 rfl) ?_
 rintro _ w2 ⟨hb2, k2, z2⟩
 replace hB := hB.new k2 (nw ge_b1)
 clear z2
 replace hb2 : Bk w2 b1 _ [.int .i64 32, .int .i64 64, .int .i64 7, .int .i64 18, .int .i64 3, .int .i64 17, .int .i64 19, .int .i64 10, .int .i64 2, .int .i64 13, .int .i64 22, .int .i64 6, .int .i64 11, .int .i64 25] := hb2
 refine aZ (fW hfin Tryd.results74 rfl (ao ag96 eY hb2 rfl)  ?_)
 exact ⟨rfl, hB⟩
theorem gf (w : World) (hT : Tabs w) : Rets Tryd.prog 80 [.agg [.int .i64 32, .int .i64 64, .int .i64 7, .int .i64 18, .int .i64 3, .int .i64 17, .int .i64 19, .int .i64 10, .int .i64 2, .int .i64 13, .int .i64 22, .int .i64 6, .int .i64 11, .int .i64 25].toArray] w (fun v w' => v = .agg [.int .i64 32, .int .i64 64, .int .i64 7, .int .i64 18, .int .i64 3, .int .i64 17, .int .i64 19, .int .i64 10, .int .i64 2, .int .i64 13, .int .i64 22, .int .i64 6, .int .i64 11, .int .i64 25, .int .u32 ((cst 32 Hl 0).toNat : Int), .int .u32 ((cst 32 Hl 1).toNat : Int), .int .u32 ((cst 32 Hl 2).toNat : Int), .int .u32 ((cst 32 Hl 3).toNat : Int), .int .u32 ((cst 32 Hl 4).toNat : Int), .int .u32 ((cst 32 Hl 5).toNat : Int), .int .u32 ((cst 32 Hl 6).toNat : Int), .int .u32 ((cst 32 Hl 7).toNat : Int)].toArray ∧ Keep [] w w') := by
 have hB : Keep [] w w := Keep.refl _ _
 refine ad Tryd.func80 rfl (by decide) Tryd.ntmps80 rfl (fun fin _ hfin => ?_)
 refine aY (aX (ah (bz (cs := [.int .i64 32, .int .i64 64, .int .i64 7, .int .i64 18, .int .i64 3, .int .i64 17, .int .i64 19, .int .i64 10, .int .i64 2, .int .i64 13, .int .i64 22, .int .i64 6, .int .i64 11, .int .i64 25]) rfl rfl) rfl ?_))
 rintro _ w1 ⟨b1, rfl, eb1, hb1, k1, z1⟩
 have ge_b1 : w.heap.size ≤ b1 := by have := hB.size; omega
 replace hB := hB.trans k1
 clear eb1 z1
 refine ah (cI fV) rfl ?_
 rintro _ w2 ⟨b2, rfl, eb2, hb2, k2, z2⟩
 have ge_b2 : w.heap.size ≤ b2 := by have := hB.size; omega
 have ne_b1_b2 : b1 ≠ b2 := by have := hb1.lt; omega
 replace hb1 := hb1.lh k2
 replace hB := hB.trans k2
 clear eb2 z2
 refine aZ (aY (aX (a4 (an (cs' := [_, _, _, _, _, _, _, _, _, _, _, _, _, _]) ag96 eY rfl hb1 rfl rfl) rfl ?_)))
 refine a4 (cL (idx := [0]) (xs := [.tmp 6]) (vs := [_]) (css := [[_, _, _, _, _, _, _, _, _, _, _, _, _, _]]) (out := [_, _, _, _, _, _, _, _, _, _, _, _, _, _, _, _, _, _, _, _, _, _]) pl104 fV rfl rfl ⟨rfl, trivial⟩ rfl rfl) rfl ?_
 refine ah (cI fV) rfl ?_
 rintro _ w3 ⟨b3, rfl, eb3, hb3, k3, z3⟩
 have ge_b3 : w.heap.size ≤ b3 := by have := hB.size; omega
 have ne_b1_b3 : b1 ≠ b3 := by have := hb1.lt; omega
 have ne_b2_b3 : b2 ≠ b3 := by have := hb2.lt; omega
 replace hb1 := hb1.lh k3
 replace hb2 := hb2.lh k3
 replace hB := hB.trans k3
 clear eb3 z3
 refine am (bU fV rfl rfl rfl (by simp only [List.forall_mem_cons]; refine ⟨rfl, rfl, rfl, rfl, rfl, rfl, rfl, rfl, rfl, rfl, rfl, rfl, rfl, rfl, rfl, rfl, rfl, rfl, rfl, rfl, rfl, rfl, fun v hv => by cases hv⟩) hb3 rfl) ?_
 rintro _ w4 ⟨hb4, k4, z4⟩
 replace hb1 := hb1.keep k4 (nm ne_b1_b3)
 replace hb2 := hb2.keep k4 (nm ne_b2_b3)
 replace hB := hB.new k4 (nw ge_b3)
 clear z4
 replace hb4 : Bk w4 b3 _ [.int .i64 32, .int .i64 64, .int .i64 7, .int .i64 18, .int .i64 3, .int .i64 17, .int .i64 19, .int .i64 10, .int .i64 2, .int .i64 13, .int .i64 22, .int .i64 6, .int .i64 11, .int .i64 25, .int .u32 0, .int .u32 0, .int .u32 0, .int .u32 0, .int .u32 0, .int .u32 0, .int .u32 0, .int .u32 0] := hb4
 refine aZ (aY (aY (aX (a4 (g_lda (cs := iv .u64 8 (wN (KB Hl))) ag112 ty112 rfl (hT.lh hB).1 (fN _ _ _ _)) rfl ?_))))
 refine ogm rfl rfl (aZ (ag (fD 9 ?_)))
 refine aY (aX (a4 (bO rfl rfl) rfl ?_))
 refine aZ (aY (bj rfl (by decide) ?_))
 refine a8 (aY (ag (aY (aX (ogm rfl rfl (a4 (f8 (cs := iv .u64 8 (wN (KB Hl))) aV bE bW rfl rfl (by decide) (cq (by decide))) rfl ?_))))))
 refine oga rfl rfl (oga rfl rfl (aZ (aX (ogm rfl rfl (ogm rfl rfl (a4 (aj 0 aM rfl bJ (by decide) rfl rfl) rfl ?_))))))
 refine a4 (ac bZ rfl hb1 rfl) rfl ?_
 refine a4 (ak (j := 32) (bV rfl rfl) (by decide)) rfl ?_
 refine a4 (dm 32 rfl rfl rfl (by decide)) rfl ?_
 refine a4 (aw (dY (by rw [aR]; rfl) aS rfl) (by rw [i2 Hl ff])) rfl ?_
 refine a4 (aj 14 aH rfl cP (by decide) rfl rfl) rfl ?_
 refine a4 (bG (14 + 0) aF bX rfl rfl (by omega) (by omega)) rfl ?_
 refine am (bQ bX rfl rfl rfl hb4 rfl) ?_
 rintro _ w5 ⟨hb5, k5, z5⟩
 replace hb1 := hb1.keep k5 (nm ne_b1_b3)
 replace hb2 := hb2.keep k5 (nm ne_b2_b3)
 replace hB := hB.new k5 (nw ge_b3)
 clear z5
 replace hb5 : Bk w5 b3 _ [.int .i64 32, .int .i64 64, .int .i64 7, .int .i64 18, .int .i64 3, .int .i64 17, .int .i64 19, .int .i64 10, .int .i64 2, .int .i64 13, .int .i64 22, .int .i64 6, .int .i64 11, .int .i64 25, .int .u32 ((cst 32 Hl 0).toNat : Int), .int .u32 0, .int .u32 0, .int .u32 0, .int .u32 0, .int .u32 0, .int .u32 0, .int .u32 0] := hb5
 refine aZ (ab [(1, _), (2, _), (3, _), (8, _), (9, _)] ⟨rfl, rfl, rfl, rfl, rfl, trivial⟩ ?_)
 refine bg (aX (a4 (ak (j := 1) (bk rfl rfl) (by decide)) rfl ?_))
 refine ogm rfl rfl (aZ (cW (aY (aX (a4 (bO rfl rfl) rfl ?_)))))
 refine aZ (aY (bj rfl (by decide) ?_))
 refine a8 (aY (ag (aY (aX (ogm rfl rfl (a4 (f8 (cs := iv .u64 8 (wN (KB Hl))) aV bE bW rfl rfl (by decide) (cq (by decide))) rfl ?_))))))
 refine oga rfl rfl (oga rfl rfl (aZ (aX (ogm rfl rfl (ogm rfl rfl (a4 (aj 0 aM rfl bJ (by decide) rfl rfl) rfl ?_))))))
 refine a4 (ac bZ rfl hb1 rfl) rfl ?_
 refine a4 (ak (j := 32) (bV rfl rfl) (by decide)) rfl ?_
 refine a4 (dm 32 rfl rfl rfl (by decide)) rfl ?_
 refine a4 (aw (dY (by rw [aR]; rfl) aS rfl) (by rw [i2 Hl ff])) rfl ?_
 refine a4 (aj 14 aH rfl cP (by decide) rfl rfl) rfl ?_
 refine a4 (bG (14 + 1) aF bX rfl rfl (by omega) (by omega)) rfl ?_
 refine am (bQ bX rfl rfl rfl hb5 rfl) ?_
 rintro _ w6 ⟨hb6, k6, z6⟩
 replace hb1 := hb1.keep k6 (nm ne_b1_b3)
 replace hb2 := hb2.keep k6 (nm ne_b2_b3)
 replace hB := hB.new k6 (nw ge_b3)
 clear z6
 replace hb6 : Bk w6 b3 _ [.int .i64 32, .int .i64 64, .int .i64 7, .int .i64 18, .int .i64 3, .int .i64 17, .int .i64 19, .int .i64 10, .int .i64 2, .int .i64 13, .int .i64 22, .int .i64 6, .int .i64 11, .int .i64 25, .int .u32 ((cst 32 Hl 0).toNat : Int), .int .u32 ((cst 32 Hl 1).toNat : Int), .int .u32 0, .int .u32 0, .int .u32 0, .int .u32 0, .int .u32 0, .int .u32 0] := hb6
 refine aZ (ab [(1, _), (2, _), (3, _), (8, _), (9, _)] ⟨rfl, rfl, rfl, rfl, rfl, trivial⟩ ?_)
 refine bg (aX (a4 (ak (j := 2) (bk rfl rfl) (by decide)) rfl ?_))
 refine ogm rfl rfl (aZ (cW (aY (aX (a4 (bO rfl rfl) rfl ?_)))))
 refine aZ (aY (bj rfl (by decide) ?_))
 refine a8 (aY (ag (aY (aX (ogm rfl rfl (a4 (f8 (cs := iv .u64 8 (wN (KB Hl))) aV bE bW rfl rfl (by decide) (cq (by decide))) rfl ?_))))))
 refine oga rfl rfl (oga rfl rfl (aZ (aX (ogm rfl rfl (ogm rfl rfl (a4 (aj 0 aM rfl bJ (by decide) rfl rfl) rfl ?_))))))
 refine a4 (ac bZ rfl hb1 rfl) rfl ?_
 refine a4 (ak (j := 32) (bV rfl rfl) (by decide)) rfl ?_
 refine a4 (dm 32 rfl rfl rfl (by decide)) rfl ?_
 refine a4 (aw (dY (by rw [aR]; rfl) aS rfl) (by rw [i2 Hl ff])) rfl ?_
 refine a4 (aj 14 aH rfl cP (by decide) rfl rfl) rfl ?_
 refine a4 (bG (14 + 2) aF bX rfl rfl (by omega) (by omega)) rfl ?_
 refine am (bQ bX rfl rfl rfl hb6 rfl) ?_
 rintro _ w7 ⟨hb7, k7, z7⟩
 replace hb1 := hb1.keep k7 (nm ne_b1_b3)
 replace hb2 := hb2.keep k7 (nm ne_b2_b3)
 replace hB := hB.new k7 (nw ge_b3)
 clear z7
 replace hb7 : Bk w7 b3 _ [.int .i64 32, .int .i64 64, .int .i64 7, .int .i64 18, .int .i64 3, .int .i64 17, .int .i64 19, .int .i64 10, .int .i64 2, .int .i64 13, .int .i64 22, .int .i64 6, .int .i64 11, .int .i64 25, .int .u32 ((cst 32 Hl 0).toNat : Int), .int .u32 ((cst 32 Hl 1).toNat : Int), .int .u32 ((cst 32 Hl 2).toNat : Int), .int .u32 0, .int .u32 0, .int .u32 0, .int .u32 0, .int .u32 0] := hb7
 refine aZ (ab [(1, _), (2, _), (3, _), (8, _), (9, _)] ⟨rfl, rfl, rfl, rfl, rfl, trivial⟩ ?_)
 refine bg (aX (a4 (ak (j := 3) (bk rfl rfl) (by decide)) rfl ?_))
 refine ogm rfl rfl (aZ (cW (aY (aX (a4 (bO rfl rfl) rfl ?_)))))
 refine aZ (aY (bj rfl (by decide) ?_))
 refine a8 (aY (ag (aY (aX (ogm rfl rfl (a4 (f8 (cs := iv .u64 8 (wN (KB Hl))) aV bE bW rfl rfl (by decide) (cq (by decide))) rfl ?_))))))
 refine oga rfl rfl (oga rfl rfl (aZ (aX (ogm rfl rfl (ogm rfl rfl (a4 (aj 0 aM rfl bJ (by decide) rfl rfl) rfl ?_))))))
 refine a4 (ac bZ rfl hb1 rfl) rfl ?_
 refine a4 (ak (j := 32) (bV rfl rfl) (by decide)) rfl ?_
 refine a4 (dm 32 rfl rfl rfl (by decide)) rfl ?_
 refine a4 (aw (dY (by rw [aR]; rfl) aS rfl) (by rw [i2 Hl ff])) rfl ?_
 refine a4 (aj 14 aH rfl cP (by decide) rfl rfl) rfl ?_
 refine a4 (bG (14 + 3) aF bX rfl rfl (by omega) (by omega)) rfl ?_
 refine am (bQ bX rfl rfl rfl hb7 rfl) ?_
 rintro _ w8 ⟨hb8, k8, z8⟩
 replace hb1 := hb1.keep k8 (nm ne_b1_b3)
 replace hb2 := hb2.keep k8 (nm ne_b2_b3)
 replace hB := hB.new k8 (nw ge_b3)
 clear z8
 replace hb8 : Bk w8 b3 _ [.int .i64 32, .int .i64 64, .int .i64 7, .int .i64 18, .int .i64 3, .int .i64 17, .int .i64 19, .int .i64 10, .int .i64 2, .int .i64 13, .int .i64 22, .int .i64 6, .int .i64 11, .int .i64 25, .int .u32 ((cst 32 Hl 0).toNat : Int), .int .u32 ((cst 32 Hl 1).toNat : Int), .int .u32 ((cst 32 Hl 2).toNat : Int), .int .u32 ((cst 32 Hl 3).toNat : Int), .int .u32 0, .int .u32 0, .int .u32 0, .int .u32 0] := hb8
 refine aZ (ab [(1, _), (2, _), (3, _), (8, _), (9, _)] ⟨rfl, rfl, rfl, rfl, rfl, trivial⟩ ?_)
 refine bg (aX (a4 (ak (j := 4) (bk rfl rfl) (by decide)) rfl ?_))
 refine ogm rfl rfl (aZ (cW (aY (aX (a4 (bO rfl rfl) rfl ?_)))))
 refine aZ (aY (bj rfl (by decide) ?_))
 refine a8 (aY (ag (aY (aX (ogm rfl rfl (a4 (f8 (cs := iv .u64 8 (wN (KB Hl))) aV bE bW rfl rfl (by decide) (cq (by decide))) rfl ?_))))))
 refine oga rfl rfl (oga rfl rfl (aZ (aX (ogm rfl rfl (ogm rfl rfl (a4 (aj 0 aM rfl bJ (by decide) rfl rfl) rfl ?_))))))
 refine a4 (ac bZ rfl hb1 rfl) rfl ?_
 refine a4 (ak (j := 32) (bV rfl rfl) (by decide)) rfl ?_
 refine a4 (dm 32 rfl rfl rfl (by decide)) rfl ?_
 refine a4 (aw (dY (by rw [aR]; rfl) aS rfl) (by rw [i2 Hl ff])) rfl ?_
 refine a4 (aj 14 aH rfl cP (by decide) rfl rfl) rfl ?_
 refine a4 (bG (14 + 4) aF bX rfl rfl (by omega) (by omega)) rfl ?_
 refine am (bQ bX rfl rfl rfl hb8 rfl) ?_
 rintro _ w9 ⟨hb9, k9, z9⟩
 replace hb1 := hb1.keep k9 (nm ne_b1_b3)
 replace hb2 := hb2.keep k9 (nm ne_b2_b3)
 replace hB := hB.new k9 (nw ge_b3)
 clear z9
 replace hb9 : Bk w9 b3 _ [.int .i64 32, .int .i64 64, .int .i64 7, .int .i64 18, .int .i64 3, .int .i64 17, .int .i64 19, .int .i64 10, .int .i64 2, .int .i64 13, .int .i64 22, .int .i64 6, .int .i64 11, .int .i64 25, .int .u32 ((cst 32 Hl 0).toNat : Int), .int .u32 ((cst 32 Hl 1).toNat : Int), .int .u32 ((cst 32 Hl 2).toNat : Int), .int .u32 ((cst 32 Hl 3).toNat : Int), .int .u32 ((cst 32 Hl 4).toNat : Int), .int .u32 0, .int .u32 0, .int .u32 0] := hb9
 refine aZ (ab [(1, _), (2, _), (3, _), (8, _), (9, _)] ⟨rfl, rfl, rfl, rfl, rfl, trivial⟩ ?_)
 refine bg (aX (a4 (ak (j := 5) (bk rfl rfl) (by decide)) rfl ?_))
 refine ogm rfl rfl (aZ (cW (aY (aX (a4 (bO rfl rfl) rfl ?_)))))
 refine aZ (aY (bj rfl (by decide) ?_))
 refine a8 (aY (ag (aY (aX (ogm rfl rfl (a4 (f8 (cs := iv .u64 8 (wN (KB Hl))) aV bE bW rfl rfl (by decide) (cq (by decide))) rfl ?_))))))
 refine oga rfl rfl (oga rfl rfl (aZ (aX (ogm rfl rfl (ogm rfl rfl (a4 (aj 0 aM rfl bJ (by decide) rfl rfl) rfl ?_))))))
 refine a4 (ac bZ rfl hb1 rfl) rfl ?_
 refine a4 (ak (j := 32) (bV rfl rfl) (by decide)) rfl ?_
 refine a4 (dm 32 rfl rfl rfl (by decide)) rfl ?_
 refine a4 (aw (dY (by rw [aR]; rfl) aS rfl) (by rw [i2 Hl ff])) rfl ?_
 refine a4 (aj 14 aH rfl cP (by decide) rfl rfl) rfl ?_
 refine a4 (bG (14 + 5) aF bX rfl rfl (by omega) (by omega)) rfl ?_
 refine am (bQ bX rfl rfl rfl hb9 rfl) ?_
 rintro _ w10 ⟨hb10, k10, z10⟩
 replace hb1 := hb1.keep k10 (nm ne_b1_b3)
 replace hb2 := hb2.keep k10 (nm ne_b2_b3)
 replace hB := hB.new k10 (nw ge_b3)
 clear z10
 replace hb10 : Bk w10 b3 _ [.int .i64 32, .int .i64 64, .int .i64 7, .int .i64 18, .int .i64 3, .int .i64 17, .int .i64 19, .int .i64 10, .int .i64 2, .int .i64 13, .int .i64 22, .int .i64 6, .int .i64 11, .int .i64 25, .int .u32 ((cst 32 Hl 0).toNat : Int), .int .u32 ((cst 32 Hl 1).toNat : Int), .int .u32 ((cst 32 Hl 2).toNat : Int), .int .u32 ((cst 32 Hl 3).toNat : Int), .int .u32 ((cst 32 Hl 4).toNat : Int), .int .u32 ((cst 32 Hl 5).toNat : Int), .int .u32 0, .int .u32 0] := hb10
 refine aZ (ab [(1, _), (2, _), (3, _), (8, _), (9, _)] ⟨rfl, rfl, rfl, rfl, rfl, trivial⟩ ?_)
 refine bg (aX (a4 (ak (j := 6) (bk rfl rfl) (by decide)) rfl ?_))
 refine ogm rfl rfl (aZ (cW (aY (aX (a4 (bO rfl rfl) rfl ?_)))))
 refine aZ (aY (bj rfl (by decide) ?_))
 refine a8 (aY (ag (aY (aX (ogm rfl rfl (a4 (f8 (cs := iv .u64 8 (wN (KB Hl))) aV bE bW rfl rfl (by decide) (cq (by decide))) rfl ?_))))))
 refine oga rfl rfl (oga rfl rfl (aZ (aX (ogm rfl rfl (ogm rfl rfl (a4 (aj 0 aM rfl bJ (by decide) rfl rfl) rfl ?_))))))
 refine a4 (ac bZ rfl hb1 rfl) rfl ?_
 refine a4 (ak (j := 32) (bV rfl rfl) (by decide)) rfl ?_
 refine a4 (dm 32 rfl rfl rfl (by decide)) rfl ?_
 refine a4 (aw (dY (by rw [aR]; rfl) aS rfl) (by rw [i2 Hl ff])) rfl ?_
 refine a4 (aj 14 aH rfl cP (by decide) rfl rfl) rfl ?_
 refine a4 (bG (14 + 6) aF bX rfl rfl (by omega) (by omega)) rfl ?_
 refine am (bQ bX rfl rfl rfl hb10 rfl) ?_
 rintro _ w11 ⟨hb11, k11, z11⟩
 replace hb1 := hb1.keep k11 (nm ne_b1_b3)
 replace hb2 := hb2.keep k11 (nm ne_b2_b3)
 replace hB := hB.new k11 (nw ge_b3)
 clear z11
 replace hb11 : Bk w11 b3 _ [.int .i64 32, .int .i64 64, .int .i64 7, .int .i64 18, .int .i64 3, .int .i64 17, .int .i64 19, .int .i64 10, .int .i64 2, .int .i64 13, .int .i64 22, .int .i64 6, .int .i64 11, .int .i64 25, .int .u32 ((cst 32 Hl 0).toNat : Int), .int .u32 ((cst 32 Hl 1).toNat : Int), .int .u32 ((cst 32 Hl 2).toNat : Int), .int .u32 ((cst 32 Hl 3).toNat : Int), .int .u32 ((cst 32 Hl 4).toNat : Int), .int .u32 ((cst 32 Hl 5).toNat : Int), .int .u32 ((cst 32 Hl 6).toNat : Int), .int .u32 0] := hb11
 refine aZ (ab [(1, _), (2, _), (3, _), (8, _), (9, _)] ⟨rfl, rfl, rfl, rfl, rfl, trivial⟩ ?_)
 refine bg (aX (a4 (ak (j := 7) (bk rfl rfl) (by decide)) rfl ?_))
 refine ogm rfl rfl (aZ (cW (aY (aX (a4 (bO rfl rfl) rfl ?_)))))
 refine aZ (aY (bj rfl (by decide) ?_))
 refine a8 (aY (ag (aY (aX (ogm rfl rfl (a4 (f8 (cs := iv .u64 8 (wN (KB Hl))) aV bE bW rfl rfl (by decide) (cq (by decide))) rfl ?_))))))
 refine oga rfl rfl (oga rfl rfl (aZ (aX (ogm rfl rfl (ogm rfl rfl (a4 (aj 0 aM rfl bJ (by decide) rfl rfl) rfl ?_))))))
 refine a4 (ac bZ rfl hb1 rfl) rfl ?_
 refine a4 (ak (j := 32) (bV rfl rfl) (by decide)) rfl ?_
 refine a4 (dm 32 rfl rfl rfl (by decide)) rfl ?_
 refine a4 (aw (dY (by rw [aR]; rfl) aS rfl) (by rw [i2 Hl ff])) rfl ?_
 refine a4 (aj 14 aH rfl cP (by decide) rfl rfl) rfl ?_
 refine a4 (bG (14 + 7) aF bX rfl rfl (by omega) (by omega)) rfl ?_
 refine am (bQ bX rfl rfl rfl hb11 rfl) ?_
 rintro _ w12 ⟨hb12, k12, z12⟩
 replace hb2 := hb2.keep k12 (nm ne_b2_b3)
 replace hB := hB.new k12 (nw ge_b3)
 clear z12
 replace hb12 : Bk w12 b3 _ [.int .i64 32, .int .i64 64, .int .i64 7, .int .i64 18, .int .i64 3, .int .i64 17, .int .i64 19, .int .i64 10, .int .i64 2, .int .i64 13, .int .i64 22, .int .i64 6, .int .i64 11, .int .i64 25, .int .u32 ((cst 32 Hl 0).toNat : Int), .int .u32 ((cst 32 Hl 1).toNat : Int), .int .u32 ((cst 32 Hl 2).toNat : Int), .int .u32 ((cst 32 Hl 3).toNat : Int), .int .u32 ((cst 32 Hl 4).toNat : Int), .int .u32 ((cst 32 Hl 5).toNat : Int), .int .u32 ((cst 32 Hl 6).toNat : Int), .int .u32 ((cst 32 Hl 7).toNat : Int)] := hb12
 refine aZ (ab [(1, _), (2, _), (3, _), (8, _), (9, _)] ⟨rfl, rfl, rfl, rfl, rfl, trivial⟩ ?_)
 refine bg (aX (a4 (ak (j := 8) (bk rfl rfl) (by decide)) rfl ?_))
 refine ogm rfl rfl (aZ (cW (aY (aX (a4 (bO rfl rfl) rfl ?_)))))
 refine aZ (aY (co rfl (by decide) ?_))
 refine bN rfl ?_
 refine aY (aX (a4 (an (cs' := [_, _, _, _, _, _, _, _, _, _, _, _, _, _, _, _, _, _, _, _, _, _]) ag104 fV rfl hb12 rfl rfl) rfl ?_))
 refine am (bU fV rfl rfl rfl (by simp only [List.forall_mem_cons]; refine ⟨rfl, rfl, rfl, rfl, rfl, rfl, rfl, rfl, rfl, rfl, rfl, rfl, rfl, rfl, rfl, rfl, rfl, rfl, rfl, rfl, rfl, rfl, fun v hv => by cases hv⟩) hb2 rfl) ?_
 rintro _ w13 ⟨hb13, k13, z13⟩
 replace hB := hB.new k13 (nw ge_b2)
 clear z13
 replace hb13 : Bk w13 b2 _ [.int .i64 32, .int .i64 64, .int .i64 7, .int .i64 18, .int .i64 3, .int .i64 17, .int .i64 19, .int .i64 10, .int .i64 2, .int .i64 13, .int .i64 22, .int .i64 6, .int .i64 11, .int .i64 25, .int .u32 ((cst 32 Hl 0).toNat : Int), .int .u32 ((cst 32 Hl 1).toNat : Int), .int .u32 ((cst 32 Hl 2).toNat : Int), .int .u32 ((cst 32 Hl 3).toNat : Int), .int .u32 ((cst 32 Hl 4).toNat : Int), .int .u32 ((cst 32 Hl 5).toNat : Int), .int .u32 ((cst 32 Hl 6).toNat : Int), .int .u32 ((cst 32 Hl 7).toNat : Int)] := hb13
 refine aZ (fW hfin Tryd.results80 rfl (ao ag104 fV hb13 rfl)  ?_)
 exact ⟨rfl, hB⟩
end Go.Proofs.YtjfmmoonpdifcaaDoor.W
