/-
  No cell of these rows narrows 'for every input' (looked for: loops, veiled, ifaces, maps, wideKeys, modest, calm, conditions, laid).
  DERIVED. THE GIVEN ROWS OF THIS SEAT. 4 by the template 'for every input the law returns true; each argument reads behind the call as it read before'; 0 by the template 'total and deterministic' (their statements: YtimeclfplaonkaaTotals.lean).
  GIVEN WITH THE SEED: the statements are not yours to turn. If you find one false, say at which input.
  Laid BY PROGRAM, IN A SANDBOX (cutbox-rows.mjs): the forced cells as the released guide's own fill.sh prints them over the translation 2e58b5c7ffd8de0b… (all of the seat's roots in one cut). By AI agents, Wed Nov 11 2026. No macro, syntax, notation, axiom, sorry.
-/
import Derived.Test.YtimeclfplaonkaaChecked
import GoSem.Claim
import GoSem.ClaimJoined
import GoSem.ClaimMapViews
import Derived.JoinedTies
import Derived.KernelRfl
namespace Go.Proofs.Ytimeclfplaonkaa
/- THE CELL 'sum', in the pinned program and in every row, IS THE sha256 OF THE DUMP (.gsa) THAT YtimeclfplaonkaaProg.lean LOADS. Nothing in Lean hashes anything: it is a label: what it is worth is what the hold of that sum in a sandbox is worth. -/
noncomputable def Try.pinned : Pinned := { name := "ytimeclfplaonkaa", sum := "2e58b5c7ffd8de0bd49c5b9b8e28e95ed917d5759cd50fdd9f3b2728ee8576cf", checked := Try.checked }
namespace Rows
def none {H : Type} : Left H := { results := [], args := [] }

/-- 'synodlaw21.GroupWelcomes': WHATEVER THE INPUT: true; the input reads as it did. -/
def groupWelcomesSpec : ChangeSpec := { name := "groupWelcomes", fn := fun _ => fun
  | [d1, d2] => { results := [.lit (.bool true)], args := [d1, d2] }
  | _ => none }
def groupWelcomesRow : OpenClaim := { program := "ytimeclfplaonkaa", sum := "2e58b5c7ffd8de0bd49c5b9b8e28e95ed917d5759cd50fdd9f3b2728ee8576cf", func := "synod/synodlaw21.GroupWelcomes", spec := "groupWelcomes", unfollowed := true, recurses := true, apart := false }
def GroupWelcomesSaid : Prop := groupWelcomesRow.holds Try.pinned (OpenSpec.ofChange groupWelcomesSpec)

/-- ITS FALSE NEIGHBOUR: 'it returns false'. Refute it at one input. -/
def groupWelcomesWrong : ChangeSpec := { name := "groupWelcomes", fn := fun _ => fun
  | [d1, d2] => { results := [.lit (.bool false)], args := [d1, d2] }
  | _ => none }
def GroupWelcomesWrongFalsely : Prop := groupWelcomesRow.holds Try.pinned (OpenSpec.ofChange groupWelcomesWrong)

/-- 'synodlaw20.KeysBytes': WHATEVER THE INPUT: true; the input reads as it did. -/
def keysBytesSpec : ChangeSpec := { name := "keysBytes", fn := fun _ => fun
  | [d1, d2] => { results := [.lit (.bool true)], args := [d1, d2] }
  | _ => none }
def keysBytesRow : OpenClaim := { program := "ytimeclfplaonkaa", sum := "2e58b5c7ffd8de0bd49c5b9b8e28e95ed917d5759cd50fdd9f3b2728ee8576cf", func := "synod/synodlaw20.KeysBytes", spec := "keysBytes", unfollowed := true, recurses := true, apart := false }
def KeysBytesSaid : Prop := keysBytesRow.holds Try.pinned (OpenSpec.ofChange keysBytesSpec)

/-- ITS FALSE NEIGHBOUR: 'it returns false'. Refute it at one input. -/
def keysBytesWrong : ChangeSpec := { name := "keysBytes", fn := fun _ => fun
  | [d1, d2] => { results := [.lit (.bool false)], args := [d1, d2] }
  | _ => none }
def KeysBytesWrongFalsely : Prop := keysBytesRow.holds Try.pinned (OpenSpec.ofChange keysBytesWrong)

/-- 'synodlaw21.GroupBodies': WHATEVER THE INPUT: true; the input reads as it did. -/
def groupBodiesSpec : ChangeSpec := { name := "groupBodies", fn := fun _ => fun
  | [d1, d2] => { results := [.lit (.bool true)], args := [d1, d2] }
  | _ => none }
def groupBodiesRow : OpenClaim := { program := "ytimeclfplaonkaa", sum := "2e58b5c7ffd8de0bd49c5b9b8e28e95ed917d5759cd50fdd9f3b2728ee8576cf", func := "synod/synodlaw21.GroupBodies", spec := "groupBodies", unfollowed := true, recurses := true, apart := false }
def GroupBodiesSaid : Prop := groupBodiesRow.holds Try.pinned (OpenSpec.ofChange groupBodiesSpec)

/-- ITS FALSE NEIGHBOUR: 'it returns false'. Refute it at one input. -/
def groupBodiesWrong : ChangeSpec := { name := "groupBodies", fn := fun _ => fun
  | [d1, d2] => { results := [.lit (.bool false)], args := [d1, d2] }
  | _ => none }
def GroupBodiesWrongFalsely : Prop := groupBodiesRow.holds Try.pinned (OpenSpec.ofChange groupBodiesWrong)

/-- 'synodlaw21.GroupInfos': WHATEVER THE INPUT: true; the input reads as it did. -/
def groupInfosSpec : ChangeSpec := { name := "groupInfos", fn := fun _ => fun
  | [d1, d2] => { results := [.lit (.bool true)], args := [d1, d2] }
  | _ => none }
def groupInfosRow : OpenClaim := { program := "ytimeclfplaonkaa", sum := "2e58b5c7ffd8de0bd49c5b9b8e28e95ed917d5759cd50fdd9f3b2728ee8576cf", func := "synod/synodlaw21.GroupInfos", spec := "groupInfos", unfollowed := true, recurses := true, apart := false }
def GroupInfosSaid : Prop := groupInfosRow.holds Try.pinned (OpenSpec.ofChange groupInfosSpec)

/-- ITS FALSE NEIGHBOUR: 'it returns false'. Refute it at one input. -/
def groupInfosWrong : ChangeSpec := { name := "groupInfos", fn := fun _ => fun
  | [d1, d2] => { results := [.lit (.bool false)], args := [d1, d2] }
  | _ => none }
def GroupInfosWrongFalsely : Prop := groupInfosRow.holds Try.pinned (OpenSpec.ofChange groupInfosWrong)

/- THE SECOND FORM. 'bulk': how many values and letters a reading holds, each counted each time it is reached (what is shared counts as often as it is met; a slice's spare places count too). A statement '..UptoSaid' is the law's where the arguments, and the package variables that the reading takes, are together of bulk at most 1048576: NARROWER than '..Said'. Prove '..Said' where nothing that the law and all that it calls make is longer than what came in: it says more and counts as full. Else prove '..UptoSaid'. A law counts once. -/
mutual
def uptoBulk {H : Type} : DataW H → Nat
  | .lit (.string bytes) => bytes.length + 1
  | .lit _ => 1
  | .nil => 1
  | .ptr d => uptoBulk d + 1
  | .slice elems spare => uptoBulkAll elems + uptoBulkAll spare + 1
  | .agg parts => uptoBulkAll parts + 1
  | .iface _ d => uptoBulk d + 1
  | .map entries => uptoBulkEntries entries + 1
  | .held _ => 1
def uptoBulkAll {H : Type} : List (DataW H) → Nat
  | [] => 0
  | d :: r => uptoBulk d + uptoBulkAll r
def uptoBulkEntries {H : Type} : List (Lit × DataW H) → Nat
  | [] => 0
  | x :: r => uptoBulkEntry x + uptoBulkEntries r
def uptoBulkEntry {H : Type} : Lit × DataW H → Nat
  | (.string bytes, d) => bytes.length + uptoBulk d + 1
  | (_, d) => uptoBulk d + 1
 end
def uptoSmall : (H : Type) → List (DataW H) → Bool := fun _ ds => decide (uptoBulkAll ds ≤ 1048576)
def OpenSpec.upto (s : _root_.Go.ChangeSpec) : _root_.Go.OpenSpec := { _root_.Go.OpenSpec.ofChange s with cond := some uptoSmall }

/-- 'synodlaw21.GroupWelcomes', WHERE WHAT IT READS IS OF BULK AT MOST 1048576: true; the input reads as it did. -/
def groupWelcomesUptoRow : OpenClaim := { program := "ytimeclfplaonkaa", sum := "2e58b5c7ffd8de0bd49c5b9b8e28e95ed917d5759cd50fdd9f3b2728ee8576cf", func := "synod/synodlaw21.GroupWelcomes", spec := "groupWelcomes", unfollowed := true, recurses := true, apart := false, narrowed := true }
def GroupWelcomesUptoSaid : Prop := groupWelcomesUptoRow.holds Try.pinned (OpenSpec.upto groupWelcomesSpec)

/-- 'synodlaw20.KeysBytes', WHERE WHAT IT READS IS OF BULK AT MOST 1048576: true; the input reads as it did. -/
def keysBytesUptoRow : OpenClaim := { program := "ytimeclfplaonkaa", sum := "2e58b5c7ffd8de0bd49c5b9b8e28e95ed917d5759cd50fdd9f3b2728ee8576cf", func := "synod/synodlaw20.KeysBytes", spec := "keysBytes", unfollowed := true, recurses := true, apart := false, narrowed := true }
def KeysBytesUptoSaid : Prop := keysBytesUptoRow.holds Try.pinned (OpenSpec.upto keysBytesSpec)

/-- 'synodlaw21.GroupBodies', WHERE WHAT IT READS IS OF BULK AT MOST 1048576: true; the input reads as it did. -/
def groupBodiesUptoRow : OpenClaim := { program := "ytimeclfplaonkaa", sum := "2e58b5c7ffd8de0bd49c5b9b8e28e95ed917d5759cd50fdd9f3b2728ee8576cf", func := "synod/synodlaw21.GroupBodies", spec := "groupBodies", unfollowed := true, recurses := true, apart := false, narrowed := true }
def GroupBodiesUptoSaid : Prop := groupBodiesUptoRow.holds Try.pinned (OpenSpec.upto groupBodiesSpec)

/-- 'synodlaw21.GroupInfos', WHERE WHAT IT READS IS OF BULK AT MOST 1048576: true; the input reads as it did. -/
def groupInfosUptoRow : OpenClaim := { program := "ytimeclfplaonkaa", sum := "2e58b5c7ffd8de0bd49c5b9b8e28e95ed917d5759cd50fdd9f3b2728ee8576cf", func := "synod/synodlaw21.GroupInfos", spec := "groupInfos", unfollowed := true, recurses := true, apart := false, narrowed := true }
def GroupInfosUptoSaid : Prop := groupInfosUptoRow.holds Try.pinned (OpenSpec.upto groupInfosSpec)

end Rows
end Go.Proofs.Ytimeclfplaonkaa
