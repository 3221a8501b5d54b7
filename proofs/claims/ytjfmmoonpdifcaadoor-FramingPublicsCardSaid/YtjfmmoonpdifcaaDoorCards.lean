/-
  DERIVED. GIVEN WITH THE SEED: THE CARDS: each row of YtjfmmoonpdifcaaDoorRows.lean that lists a variable, with what it lists TIED to the program's text (the seventh form; the later family's looks); each row that meets fmt, with fmt's text TOLD by the authors' own Lean function (tested against real Go, not proved from fmt's source: count such statements apart). THE CARD IS WHAT COUNTS. Prove the row's statement (the work); the ties are given (YtjfmmoonpdifcaaDoorTie.lean); close each card by the builder's one call (the guide's Derived/Test/ToyasCard.lean, 'card_holds'). Laid BY PROGRAM, IN A SANDBOX (cutbox-door.mjs). By AI agents, Wed Nov 11 2026. No macro, syntax, notation, axiom, sorry.
-/
import Derived.Test.YtjfmmoonpdifcaaDoorRows
import GoSem.ClaimSeven
namespace Go.Proofs.YtjfmmoonpdifcaaDoor
namespace Rows

/-- THE TIED CARD OF 'synodlaw18.FramingPublics'. -/
def framingPublicsCard : Claim7 := { stood := { row := framingPublicsRow, standIns := [], harness := (true, "e643b2b4eb10dac6530069af5b9a69f2cd66715920e5276b07a0ec13ef9fe396"), looks := false }, kinds := [], alts := [], laidByText := true, laidKinds := [.data, .data], laidTests := true, laidLooks := .later }
def FramingPublicsCardSaid : Prop := Claim7.holds Tryd.pinned (.plain (OpenSpec.ofChange framingPublicsSpec)) framingPublicsCard

/-- THE SECOND FORM's CARD OF 'synodlaw18.FramingPublics'. -/
def framingPublicsUptoCard : Claim7 := { stood := { row := framingPublicsUptoRow, standIns := [], harness := (true, "e643b2b4eb10dac6530069af5b9a69f2cd66715920e5276b07a0ec13ef9fe396"), looks := false }, kinds := [], alts := [], laidByText := true, laidKinds := [.data, .data], laidTests := true, laidLooks := .later }
def FramingPublicsUptoCardSaid : Prop := Claim7.holds Tryd.pinned (.plain (OpenSpec.upto framingPublicsSpec)) framingPublicsUptoCard
end Rows
end Go.Proofs.YtjfmmoonpdifcaaDoor
