/-
  DERIVED. GIVEN WITH THE SEED: THE CARDS: each row of YtnadmnhkfdkafaaDoorRows.lean that lists a variable, with what it lists TIED to the program's text (the seventh form; the later family's looks); each row that meets fmt, with fmt's text TOLD by the authors' own Lean function (tested against real Go, not proved from fmt's source: count such statements apart). THE CARD IS WHAT COUNTS. Prove the row's statement (the work); the ties are given (YtnadmnhkfdkafaaDoorTie.lean); close each card by the builder's one call (the guide's Derived/Test/ToyasCard.lean, 'card_holds'). Laid BY PROGRAM, IN A SANDBOX (cutbox-door.mjs). By AI agents, Wed Nov 11 2026. No macro, syntax, notation, axiom, sorry.
-/
import Derived.Test.YtnadmnhkfdkafaaDoorRows
import GoSem.ClaimSeven
namespace Go.Proofs.YtnadmnhkfdkafaaDoor
namespace Rows

/-- THE TIED CARD OF 'arbiterlaw9.CnfTidies'. -/
def cnfTidiesCard : Claim7 := { stood := { row := cnfTidiesRow, standIns := [], harness := (true, "270de3eb938d22f562031269bc1f073e343ac63eac1a8895c02ee76462ab4ba5"), looks := true }, kinds := [], alts := [], laidByText := true, laidKinds := [.data, .data, .data], laidTests := true, laidLooks := .later }
def CnfTidiesCardSaid : Prop := Claim7.holds Tryd.pinned (.plain (OpenSpec.ofChange cnfTidiesSpec)) cnfTidiesCard

/-- THE TIED CARD OF 'arbiterlaw9.CnfReads'. -/
def cnfReadsCard : Claim7 := { stood := { row := cnfReadsRow, standIns := [], harness := (true, "270de3eb938d22f562031269bc1f073e343ac63eac1a8895c02ee76462ab4ba5"), looks := true }, kinds := [], alts := [], laidByText := true, laidKinds := [.data, .data, .data, .data, .sentinel, .sentinel, .pinned], laidTests := true, laidLooks := .later }
def CnfReadsCardSaid : Prop := Claim7.holds Tryd.pinned (.plain (OpenSpec.ofChange cnfReadsSpec)) cnfReadsCard

/-- THE SECOND FORM's CARD OF 'arbiterlaw9.CnfTidies'. -/
def cnfTidiesUptoCard : Claim7 := { stood := { row := cnfTidiesUptoRow, standIns := [], harness := (true, "270de3eb938d22f562031269bc1f073e343ac63eac1a8895c02ee76462ab4ba5"), looks := true }, kinds := [], alts := [], laidByText := true, laidKinds := [.data, .data, .data], laidTests := true, laidLooks := .later }
def CnfTidiesUptoCardSaid : Prop := Claim7.holds Tryd.pinned (.plain (OpenSpec.upto cnfTidiesSpec)) cnfTidiesUptoCard

/-- THE SECOND FORM's CARD OF 'arbiterlaw9.CnfReads'. -/
def cnfReadsUptoCard : Claim7 := { stood := { row := cnfReadsUptoRow, standIns := [], harness := (true, "270de3eb938d22f562031269bc1f073e343ac63eac1a8895c02ee76462ab4ba5"), looks := true }, kinds := [], alts := [], laidByText := true, laidKinds := [.data, .data, .data, .data, .sentinel, .sentinel, .pinned], laidTests := true, laidLooks := .later }
def CnfReadsUptoCardSaid : Prop := Claim7.holds Tryd.pinned (.plain (OpenSpec.upto cnfReadsSpec)) cnfReadsUptoCard
end Rows
end Go.Proofs.YtnadmnhkfdkafaaDoor
