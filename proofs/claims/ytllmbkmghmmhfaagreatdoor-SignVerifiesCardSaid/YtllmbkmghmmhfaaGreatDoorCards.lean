/-
  DERIVED. GIVEN WITH THE SEED: THE CARDS: each row of YtllmbkmghmmhfaaGreatDoorRows.lean that lists a variable, with what it lists TIED to the program's text (the seventh form; the later family's looks); each row that meets fmt, with fmt's text TOLD by the authors' own Lean function (tested against real Go, not proved from fmt's source: count such statements apart). THE CARD IS WHAT COUNTS. Prove the row's statement (the work); the ties are given (YtllmbkmghmmhfaaGreatDoorTie.lean); close each card by the builder's one call (the guide's Derived/Test/ToyasCard.lean, 'card_holds'). Laid BY PROGRAM, IN A SANDBOX (cutbox-door.mjs). By AI agents, Wed Nov 11 2026. No macro, syntax, notation, axiom, sorry.
-/
import Derived.Test.YtllmbkmghmmhfaaGreatDoorRows
import GoSem.ClaimSeven
namespace Go.Proofs.YtllmbkmghmmhfaaGreatDoor
namespace Rows

/-- THE TIED CARD OF 'synodlaw07.SignPublics'. -/
def signPublicsCard : Claim7 := { stood := { row := signPublicsRow, standIns := [], harness := (true, "4cab7fcdfb5578990cfb75c9bac7695543fbe79ba4c326b7c8dc1d4e6171dc2c"), looks := false }, kinds := [], alts := [], laidByText := true, laidKinds := [.data, .data], laidTests := true, laidLooks := .later }
def SignPublicsCardSaid : Prop := Claim7.holds Tryz.pinned (.plain (OpenSpec.ofChange signPublicsSpec)) signPublicsCard

/-- THE TIED CARD OF 'synodlaw07.SignSigns'. -/
def signSignsCard : Claim7 := { stood := { row := signSignsRow, standIns := [], harness := (true, "4cab7fcdfb5578990cfb75c9bac7695543fbe79ba4c326b7c8dc1d4e6171dc2c"), looks := false }, kinds := [], alts := [], laidByText := true, laidKinds := [.data, .data], laidTests := true, laidLooks := .later }
def SignSignsCardSaid : Prop := Claim7.holds Tryz.pinned (.plain (OpenSpec.ofChange signSignsSpec)) signSignsCard

/-- THE TIED CARD OF 'synodlaw07.SignVerifies'. -/
def signVerifiesCard : Claim7 := { stood := { row := signVerifiesRow, standIns := [], harness := (true, "4cab7fcdfb5578990cfb75c9bac7695543fbe79ba4c326b7c8dc1d4e6171dc2c"), looks := false }, kinds := [], alts := [], laidByText := true, laidKinds := [.data, .data], laidTests := true, laidLooks := .later }
def SignVerifiesCardSaid : Prop := Claim7.holds Tryz.pinned (.plain (OpenSpec.ofChange signVerifiesSpec)) signVerifiesCard

/-- THE SECOND FORM's CARD OF 'synodlaw07.SignPublics'. -/
def signPublicsUptoCard : Claim7 := { stood := { row := signPublicsUptoRow, standIns := [], harness := (true, "4cab7fcdfb5578990cfb75c9bac7695543fbe79ba4c326b7c8dc1d4e6171dc2c"), looks := false }, kinds := [], alts := [], laidByText := true, laidKinds := [.data, .data], laidTests := true, laidLooks := .later }
def SignPublicsUptoCardSaid : Prop := Claim7.holds Tryz.pinned (.plain (OpenSpec.upto signPublicsSpec)) signPublicsUptoCard

/-- THE SECOND FORM's CARD OF 'synodlaw07.SignSigns'. -/
def signSignsUptoCard : Claim7 := { stood := { row := signSignsUptoRow, standIns := [], harness := (true, "4cab7fcdfb5578990cfb75c9bac7695543fbe79ba4c326b7c8dc1d4e6171dc2c"), looks := false }, kinds := [], alts := [], laidByText := true, laidKinds := [.data, .data], laidTests := true, laidLooks := .later }
def SignSignsUptoCardSaid : Prop := Claim7.holds Tryz.pinned (.plain (OpenSpec.upto signSignsSpec)) signSignsUptoCard

/-- THE SECOND FORM's CARD OF 'synodlaw07.SignVerifies'. -/
def signVerifiesUptoCard : Claim7 := { stood := { row := signVerifiesUptoRow, standIns := [], harness := (true, "4cab7fcdfb5578990cfb75c9bac7695543fbe79ba4c326b7c8dc1d4e6171dc2c"), looks := false }, kinds := [], alts := [], laidByText := true, laidKinds := [.data, .data], laidTests := true, laidLooks := .later }
def SignVerifiesUptoCardSaid : Prop := Claim7.holds Tryz.pinned (.plain (OpenSpec.upto signVerifiesSpec)) signVerifiesUptoCard
end Rows
end Go.Proofs.YtllmbkmghmmhfaaGreatDoor
