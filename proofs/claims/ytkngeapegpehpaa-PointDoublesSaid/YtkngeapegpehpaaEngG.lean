/- The walking engine, part 7: literals of structs and arrays. Nothing here names a program. -/
import Derived.Test.YtkngeapegpehpaaEngF
namespace Go.Eng
open Go Go.IntWalk
def plB (P : Program) (T : TypeId) : Option (List (Nat × Nat)) := match P.underlying T with
  | some (.struct fs) => fs.toList.mapM fun fd => (P.info? fd.type).map fun i => (fd.offset, i.size)
  | _ => none
/-- Where the fields of struct T lie: offset and number of cells. -/
def Pl (P : Program) (T : TypeId) (pls : List (Nat × Nat)) : Prop := plB P T = some pls
def bldL (pls : List (Nat × Nat)) : List Value → List (Nat × List Value) → Option (List Value)
  | cs, [] => some cs
  | cs, (i, vs) :: r => match pls[i]? with
    | some (off, size) => bif Nat.beq vs.length size && Nat.ble (off + size) cs.length then bldL pls (cs.take off ++ vs ++ cs.drop (off + size)) r else none
    | none => none
def CellsOf : List Value → List (List Value) → Prop
  | [], [] => True
  | v :: r, c :: t => v.cells = c.toArray ∧ CellsOf r t
  | _, _ => False
def enumC : List Nat → List (List Value) → List (Nat × List Value)
  | i :: r, c :: t => (i, c) :: enumC r t
  | _, _ => []
def enumI : List Nat → List Value → List (Nat × Value)
  | i :: r, c :: t => (i, c) :: enumI r t
  | _, _ => []
def enumO : List Nat → List Operand → List (Nat × Operand)
  | i :: r, c :: t => (i, c) :: enumO r t
  | _, _ => []
section
variable {P : Program} {n : Nat} {f : Fr} {w : World} {ty : TypeId}
theorem fill_bld {place : Nat → Option (Nat × Nat)} {pls : List (Nat × Nat)} (hpl : ∀ i x, pls[i]? = some x → place i = some x) : ∀ (idx : List Nat) (vs : List Value) (css : List (List Value)) (cs out : List Value), CellsOf vs css → idx.length = vs.length →
    bldL pls cs (enumC idx css) = some out → Instr.fill place cs.toArray (enumI idx vs) = some out.toArray
  | [], [], [], cs, out, _, _, h => by simp only [enumC, bldL, Option.some.injEq] at h; subst h; rfl
  | i :: idx, v :: vs, c :: css, cs, out, ⟨h1, h2⟩, hl, h => by
    simp only [enumC, bldL] at h
    split at h
    · rename_i off size hp
      cases hb : (Nat.beq c.length size && Nat.ble (off + size) cs.length) with
      | false => rw [hb] at h; cases h
      | true =>
        rw [hb] at h
        simp only [cond_true] at h
        simp only [Bool.and_eq_true] at hb
        have e1 : c.length = size := Nat.eq_of_beq_eq_true hb.1
        have e2 : off + size ≤ cs.length := Nat.le_of_ble_eq_true hb.2
        subst e1
        simp only [enumI, Instr.fill, hpl _ _ hp, h1, List.size_toArray]
        rw [if_neg (by simp; omega)]
        have hz := fold_set off c 0 cs (by omega)
        have hz' : (c.toArray.zipIdx.foldl (fun (cs : Array Value) (c : Value × Nat) => cs.setIfInBounds (off + c.2) c.1) cs.toArray) = (cs.take off ++ c ++ cs.drop (off + c.length)).toArray := by
          rw [← Array.foldl_toList, Array.toList_zipIdx]
          simpa using hz
        rw [hz']
        exact fill_bld hpl idx vs css _ out h2 (by simpa using hl) h
    · cases h
  | [], _ :: _, _, _, _, _, hl, _ => by simp at hl
  | _ :: _, [], _, _, _, _, hl, _ => by simp at hl
  | [], [], _ :: _, _, _, hc, _, _ => hc.elim
  | _ :: _, _ :: _, [], _, _, hc, _, _ => hc.elim
theorem evs_enumI {a : Act} (ha : Kn n f a) : ∀ {idx : List Nat} {xs : List Operand} {vs : List Value}, f.evs xs = some vs → (enumO idx xs).map (fun p => (p.1, a.eval p.2)) = enumI idx vs
  | [], xs, vs, _ => by simp [enumO, enumI]
  | i :: idx, [], vs, h => by simp only [Fr.evs, Option.some.injEq] at h; subst h; rfl
  | i :: idx, x :: r, vs, h => by
    unfold Fr.evs at h
    split at h
    · rename_i v hv
      split at h
      · rename_i us hu
        simp only [Option.some.injEq] at h
        subst h
        simp only [enumO, enumI, List.map_cons, ha.ev hv, evs_enumI ha hu]
      · cases h
    · cases h
theorem run_places {fs : Array Field} {pls : List (Nat × Nat)} (h : fs.toList.mapM (fun fd => (P.info? fd.type).map fun i => (fd.offset, i.size)) = some pls) (w : World) :
    (fs.mapM fun fd => (do pure (fd.offset, ← sizeOf fd.type) : Sem (Nat × Nat))).run P w = .ok pls.toArray w := by
  obtain ⟨l⟩ := fs
  simp only at h
  rw [List.mapM_toArray]
  have key : ∀ (l : List Field) (pls : List (Nat × Nat)), l.mapM (fun fd => (P.info? fd.type).map fun i => (fd.offset, i.size)) = some pls → (l.mapM fun fd => (do pure (fd.offset, ← sizeOf fd.type) : Sem (Nat × Nat))).run P w = .ok pls w := by
    intro l
    induction l with
    | nil => intro pls h; simp at h; subst h; rfl
    | cons x r ih =>
      intro pls h
      simp only [List.mapM_cons] at h ⊢
      cases hi : P.info? x.type with
      | none => rw [hi] at h; cases h
      | some i =>
        rw [hi] at h
        simp only [Option.map_some, Option.bind_eq_bind, Option.bind_some, Option.pure_def] at h
        cases hr : r.mapM (fun fd => (P.info? fd.type).map fun i => (fd.offset, i.size)) with
        | none => rw [hr] at h; cases h
        | some q =>
          rw [hr] at h
          simp only [Option.bind_some, Option.some.injEq] at h
          subst h
          have := ih q hr
          simp only [Sem.run_bind, sizeOf, typeInfo, run_program, Result.andThen_ok, hi, Sem.run_pure] at this ⊢
          rw [this]
          rfl
  have := key l pls h
  simp only [Sem.run_map, this, Result.andThen_ok]
theorem g_bld {T : TypeId} {pls : List (Nat × Nat)} {zs : List Value} {s by_ : Nat} {parts : Array (Nat × Operand)} {idx : List Nat} {xs : List Operand} {vs : List Value} {css : List (List Value)} {out : List Value}
    (hp : Pl P T pls) (hz : Ty P T zs s by_) (hpa : parts.toList = enumO idx xs) (hx : f.evs xs = some vs) (hc : CellsOf vs css) (hl : idx.length = vs.length) (hb : bldL pls zs (enumC idx css) = some out) :
    Gives P n f w (.build T parts) ty (.agg out.toArray) w := by
  intro a ha dst pos aft g
  unfold Pl plB at hp
  cases hu : P.underlying T with
  | none => rw [hu] at hp; cases hp
  | some d =>
    rw [hu] at hp
    cases d with
    | struct fs =>
      simp only at hp
      obtain ⟨z, hzc, hrz⟩ := hz.zeroValue w
      have hpv : (parts.map fun p => (p.1, a.eval p.2)) = (enumI idx vs).toArray := by
        rw [← Array.toList_inj]; simp [hpa, evs_enumI ha hx]
      have hfill := fill_bld (place := fun i => pls.toArray[i]?) (pls := pls) (fun i x h => by simpa using h) idx vs css zs out hc hl hb
      have hzz : z.cells = zs.toArray := by rw [← Array.toList_inj]; simpa using hzc
      simp only [execOp, Instr.build, Sem.run_bind, hrz, Result.andThen_ok, run_underlying hu, run_places hp, hpv, hzz]
      simp only [hfill, Sem.run_pure, Result.andThen_ok]
    | _ => cases hp
/-- An array's literal. -/
theorem g_blda {T e : TypeId} {m : Nat} {zs ze : List Value} {s by_ se be_ : Nat} {parts : Array (Nat × Operand)} {idx : List Nat} {xs : List Operand} {vs : List Value} {css : List (List Value)} {out : List Value} {pls : List (Nat × Nat)}
    (hT : P.underlying T = some (.array m e)) (he : Ty P e ze se be_) (hz : Ty P T zs s by_) (hpl : ∀ i x, pls[i]? = some x → some (i * se, se) = some x) (hpa : parts.toList = enumO idx xs) (hx : f.evs xs = some vs) (hc : CellsOf vs css) (hl : idx.length = vs.length) (hb : bldL pls zs (enumC idx css) = some out) :
    Gives P n f w (.build T parts) ty (.agg out.toArray) w := by
  intro a ha dst pos aft g
  obtain ⟨z, hzc, hrz⟩ := hz.zeroValue w
  have hpv : (parts.map fun p => (p.1, a.eval p.2)) = (enumI idx vs).toArray := by
    rw [← Array.toList_inj]; simp [hpa, evs_enumI ha hx]
  have hfill := fill_bld (place := fun i => some (i * se, se)) (pls := pls) hpl idx vs css zs out hc hl hb
  have hzz : z.cells = zs.toArray := by rw [← Array.toList_inj]; simpa using hzc
  simp only [execOp, Instr.build, Sem.run_bind, hrz, Result.andThen_ok, run_underlying hT, he.sizeOf, hpv, hzz]
  simp only [hfill, Sem.run_pure, Result.andThen_ok]
end
end Go.Eng
