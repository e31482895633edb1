/-
  DERIVED. GIVEN WITH THE SEED: THE CARDS: each row of YtafbphiedaijmaaDoorRows.lean that lists a variable, with what it lists TIED to the program's text (the seventh form; the later family's looks); each row that meets fmt, with fmt's text TOLD by the authors' own Lean function (tested against real Go, not proved from fmt's source: count such statements apart). THE CARD IS WHAT COUNTS. Prove the row's statement (the work); the ties are given (YtafbphiedaijmaaDoorTie.lean); close each card by the builder's one call (the guide's Derived/Test/ToyasCard.lean, 'card_holds'). Laid BY PROGRAM, IN A SANDBOX (cutbox-door.mjs). By AI agents, Wed Nov 11 2026. No macro, syntax, notation, axiom, sorry.
-/
import Derived.Test.YtafbphiedaijmaaDoorRows
import GoSem.ClaimSeven
namespace Go.Proofs.YtafbphiedaijmaaDoor
namespace Rows

/-- THE TIED CARD OF 'regestalaw04.CodecBytes'. -/
def codecBytesCard : Claim7 := { stood := { row := codecBytesRow, standIns := [], harness := (true, "a2b380a979687f906b2aa33b40fecb251f4b099048d324b90c79eff2c6d1bfe8"), looks := true }, kinds := [], alts := [], laidByText := true, laidKinds := [.data, .pinned], laidTests := true, laidLooks := .later }
def CodecBytesCardSaid : Prop := Claim7.holds Tryd.pinned (.plain (OpenSpec.ofChange codecBytesSpec)) codecBytesCard

/-- THE TIED CARD OF 'regestalaw04.CodecTells'. -/
def codecTellsCard : Claim7 := { stood := { row := codecTellsRow, standIns := [], harness := (true, "a2b380a979687f906b2aa33b40fecb251f4b099048d324b90c79eff2c6d1bfe8"), looks := true }, kinds := [], alts := [], laidByText := true, laidKinds := [.data, .pinned], laidTests := true, laidLooks := .later }
def CodecTellsCardSaid : Prop := Claim7.holds Tryd.pinned (.plain (OpenSpec.ofChange codecTellsSpec)) codecTellsCard

/-- THE SECOND FORM's CARD OF 'regestalaw04.CodecBytes'. -/
def codecBytesUptoCard : Claim7 := { stood := { row := codecBytesUptoRow, standIns := [], harness := (true, "a2b380a979687f906b2aa33b40fecb251f4b099048d324b90c79eff2c6d1bfe8"), looks := true }, kinds := [], alts := [], laidByText := true, laidKinds := [.data, .pinned], laidTests := true, laidLooks := .later }
def CodecBytesUptoCardSaid : Prop := Claim7.holds Tryd.pinned (.plain (OpenSpec.upto codecBytesSpec)) codecBytesUptoCard

/-- THE SECOND FORM's CARD OF 'regestalaw04.CodecTells'. -/
def codecTellsUptoCard : Claim7 := { stood := { row := codecTellsUptoRow, standIns := [], harness := (true, "a2b380a979687f906b2aa33b40fecb251f4b099048d324b90c79eff2c6d1bfe8"), looks := true }, kinds := [], alts := [], laidByText := true, laidKinds := [.data, .pinned], laidTests := true, laidLooks := .later }
def CodecTellsUptoCardSaid : Prop := Claim7.holds Tryd.pinned (.plain (OpenSpec.upto codecTellsSpec)) codecTellsUptoCard
end Rows
end Go.Proofs.YtafbphiedaijmaaDoor
