/-
  DERIVED. GIVEN WITH THE SEED: THE CARDS: each row of YtnadmnhkfdkafaaGreatDoorRows.lean that lists a variable, with what it lists TIED to the program's text (the seventh form; the later family's looks); each row that meets fmt, with fmt's text TOLD by the authors' own Lean function (tested against real Go, not proved from fmt's source: count such statements apart). THE CARD IS WHAT COUNTS. Prove the row's statement (the work); the ties are given (YtnadmnhkfdkafaaGreatDoorTie.lean); close each card by the builder's one call (the guide's Derived/Test/ToyasCard.lean, 'card_holds'). Laid BY PROGRAM, IN A SANDBOX (cutbox-door.mjs). By AI agents, Wed Nov 11 2026. No macro, syntax, notation, axiom, sorry.
-/
import Derived.Test.YtnadmnhkfdkafaaGreatDoorRows
import GoSem.ClaimSeven
namespace Go.Proofs.YtnadmnhkfdkafaaGreatDoor
namespace Rows

/-- THE TIED CARD OF 'arbiterlaw8.PrepChecks'. -/
def prepChecksCard : Claim7 := { stood := { row := prepChecksRow, standIns := [], harness := (true, "a899fd447bd7c6ae5679ecb68fa9e02e2dff4c6a26d0bf5e331138a22bf65321"), looks := true }, kinds := [], alts := [], laidByText := true, laidKinds := [.data, .pinned], laidTests := true, laidLooks := .later }
def PrepChecksCardSaid : Prop := Claim7.holds Tryz.pinned (.plain (OpenSpec.ofChange prepChecksSpec)) prepChecksCard

/-- THE TIED CARD OF 'arbiterlaw8.PrepForms'. -/
def prepFormsCard : Claim7 := { stood := { row := prepFormsRow, standIns := [], harness := (true, "a899fd447bd7c6ae5679ecb68fa9e02e2dff4c6a26d0bf5e331138a22bf65321"), looks := true }, kinds := [], alts := [], laidByText := true, laidKinds := [.data, .pinned], laidTests := true, laidLooks := .later }
def PrepFormsCardSaid : Prop := Claim7.holds Tryz.pinned (.plain (OpenSpec.ofChange prepFormsSpec)) prepFormsCard

/-- THE TIED CARD OF 'arbiterlaw9.CnfClauses'. -/
def cnfClausesCard : Claim7 := { stood := { row := cnfClausesRow, standIns := [], harness := (true, "a899fd447bd7c6ae5679ecb68fa9e02e2dff4c6a26d0bf5e331138a22bf65321"), looks := true }, kinds := [], alts := [], laidByText := true, laidKinds := [.data, .pinned], laidTests := true, laidLooks := .later }
def CnfClausesCardSaid : Prop := Claim7.holds Tryz.pinned (.plain (OpenSpec.ofChange cnfClausesSpec)) cnfClausesCard

/-- THE TIED CARD OF 'arbiterlaw9.CnfExtends'. -/
def cnfExtendsCard : Claim7 := { stood := { row := cnfExtendsRow, standIns := [], harness := (true, "a899fd447bd7c6ae5679ecb68fa9e02e2dff4c6a26d0bf5e331138a22bf65321"), looks := true }, kinds := [], alts := [], laidByText := true, laidKinds := [.data, .pinned], laidTests := true, laidLooks := .later }
def CnfExtendsCardSaid : Prop := Claim7.holds Tryz.pinned (.plain (OpenSpec.ofChange cnfExtendsSpec)) cnfExtendsCard

/-- THE TIED CARD OF 'arbiterlaw9.CnfMeans'. -/
def cnfMeansCard : Claim7 := { stood := { row := cnfMeansRow, standIns := [], harness := (true, "a899fd447bd7c6ae5679ecb68fa9e02e2dff4c6a26d0bf5e331138a22bf65321"), looks := true }, kinds := [], alts := [], laidByText := true, laidKinds := [.data, .pinned], laidTests := true, laidLooks := .later }
def CnfMeansCardSaid : Prop := Claim7.holds Tryz.pinned (.plain (OpenSpec.ofChange cnfMeansSpec)) cnfMeansCard

/-- THE TIED CARD OF 'arbiterlaw9.CnfOnly'. -/
def cnfOnlyCard : Claim7 := { stood := { row := cnfOnlyRow, standIns := [], harness := (true, "a899fd447bd7c6ae5679ecb68fa9e02e2dff4c6a26d0bf5e331138a22bf65321"), looks := true }, kinds := [], alts := [], laidByText := true, laidKinds := [.data, .pinned], laidTests := true, laidLooks := .later }
def CnfOnlyCardSaid : Prop := Claim7.holds Tryz.pinned (.plain (OpenSpec.ofChange cnfOnlySpec)) cnfOnlyCard

/-- THE TIED CARD OF 'arbiterlaw8.PrepAtoms'. -/
def prepAtomsCard : Claim7 := { stood := { row := prepAtomsRow, standIns := [], harness := (true, "a899fd447bd7c6ae5679ecb68fa9e02e2dff4c6a26d0bf5e331138a22bf65321"), looks := true }, kinds := [], alts := [], laidByText := true, laidKinds := [.data, .pinned], laidTests := true, laidLooks := .later }
def PrepAtomsCardSaid : Prop := Claim7.holds Tryz.pinned (.plain (OpenSpec.ofChange prepAtomsSpec)) prepAtomsCard

/-- THE TIED CARD OF 'arbiterlaw9.CnfTidyMeans'. -/
def cnfTidyMeansCard : Claim7 := { stood := { row := cnfTidyMeansRow, standIns := [], harness := (true, "a899fd447bd7c6ae5679ecb68fa9e02e2dff4c6a26d0bf5e331138a22bf65321"), looks := true }, kinds := [], alts := [], laidByText := true, laidKinds := [.data, .data, .data, .data, .sentinel, .sentinel, .pinned], laidTests := true, laidLooks := .later }
def CnfTidyMeansCardSaid : Prop := Claim7.holds Tryz.pinned (.plain (OpenSpec.ofChange cnfTidyMeansSpec)) cnfTidyMeansCard

/-- THE SECOND FORM's CARD OF 'arbiterlaw8.PrepChecks'. -/
def prepChecksUptoCard : Claim7 := { stood := { row := prepChecksUptoRow, standIns := [], harness := (true, "a899fd447bd7c6ae5679ecb68fa9e02e2dff4c6a26d0bf5e331138a22bf65321"), looks := true }, kinds := [], alts := [], laidByText := true, laidKinds := [.data, .pinned], laidTests := true, laidLooks := .later }
def PrepChecksUptoCardSaid : Prop := Claim7.holds Tryz.pinned (.plain (OpenSpec.upto prepChecksSpec)) prepChecksUptoCard

/-- THE SECOND FORM's CARD OF 'arbiterlaw8.PrepForms'. -/
def prepFormsUptoCard : Claim7 := { stood := { row := prepFormsUptoRow, standIns := [], harness := (true, "a899fd447bd7c6ae5679ecb68fa9e02e2dff4c6a26d0bf5e331138a22bf65321"), looks := true }, kinds := [], alts := [], laidByText := true, laidKinds := [.data, .pinned], laidTests := true, laidLooks := .later }
def PrepFormsUptoCardSaid : Prop := Claim7.holds Tryz.pinned (.plain (OpenSpec.upto prepFormsSpec)) prepFormsUptoCard

/-- THE SECOND FORM's CARD OF 'arbiterlaw9.CnfClauses'. -/
def cnfClausesUptoCard : Claim7 := { stood := { row := cnfClausesUptoRow, standIns := [], harness := (true, "a899fd447bd7c6ae5679ecb68fa9e02e2dff4c6a26d0bf5e331138a22bf65321"), looks := true }, kinds := [], alts := [], laidByText := true, laidKinds := [.data, .pinned], laidTests := true, laidLooks := .later }
def CnfClausesUptoCardSaid : Prop := Claim7.holds Tryz.pinned (.plain (OpenSpec.upto cnfClausesSpec)) cnfClausesUptoCard

/-- THE SECOND FORM's CARD OF 'arbiterlaw9.CnfExtends'. -/
def cnfExtendsUptoCard : Claim7 := { stood := { row := cnfExtendsUptoRow, standIns := [], harness := (true, "a899fd447bd7c6ae5679ecb68fa9e02e2dff4c6a26d0bf5e331138a22bf65321"), looks := true }, kinds := [], alts := [], laidByText := true, laidKinds := [.data, .pinned], laidTests := true, laidLooks := .later }
def CnfExtendsUptoCardSaid : Prop := Claim7.holds Tryz.pinned (.plain (OpenSpec.upto cnfExtendsSpec)) cnfExtendsUptoCard

/-- THE SECOND FORM's CARD OF 'arbiterlaw9.CnfMeans'. -/
def cnfMeansUptoCard : Claim7 := { stood := { row := cnfMeansUptoRow, standIns := [], harness := (true, "a899fd447bd7c6ae5679ecb68fa9e02e2dff4c6a26d0bf5e331138a22bf65321"), looks := true }, kinds := [], alts := [], laidByText := true, laidKinds := [.data, .pinned], laidTests := true, laidLooks := .later }
def CnfMeansUptoCardSaid : Prop := Claim7.holds Tryz.pinned (.plain (OpenSpec.upto cnfMeansSpec)) cnfMeansUptoCard

/-- THE SECOND FORM's CARD OF 'arbiterlaw9.CnfOnly'. -/
def cnfOnlyUptoCard : Claim7 := { stood := { row := cnfOnlyUptoRow, standIns := [], harness := (true, "a899fd447bd7c6ae5679ecb68fa9e02e2dff4c6a26d0bf5e331138a22bf65321"), looks := true }, kinds := [], alts := [], laidByText := true, laidKinds := [.data, .pinned], laidTests := true, laidLooks := .later }
def CnfOnlyUptoCardSaid : Prop := Claim7.holds Tryz.pinned (.plain (OpenSpec.upto cnfOnlySpec)) cnfOnlyUptoCard

/-- THE SECOND FORM's CARD OF 'arbiterlaw8.PrepAtoms'. -/
def prepAtomsUptoCard : Claim7 := { stood := { row := prepAtomsUptoRow, standIns := [], harness := (true, "a899fd447bd7c6ae5679ecb68fa9e02e2dff4c6a26d0bf5e331138a22bf65321"), looks := true }, kinds := [], alts := [], laidByText := true, laidKinds := [.data, .pinned], laidTests := true, laidLooks := .later }
def PrepAtomsUptoCardSaid : Prop := Claim7.holds Tryz.pinned (.plain (OpenSpec.upto prepAtomsSpec)) prepAtomsUptoCard

/-- THE SECOND FORM's CARD OF 'arbiterlaw9.CnfTidyMeans'. -/
def cnfTidyMeansUptoCard : Claim7 := { stood := { row := cnfTidyMeansUptoRow, standIns := [], harness := (true, "a899fd447bd7c6ae5679ecb68fa9e02e2dff4c6a26d0bf5e331138a22bf65321"), looks := true }, kinds := [], alts := [], laidByText := true, laidKinds := [.data, .data, .data, .data, .sentinel, .sentinel, .pinned], laidTests := true, laidLooks := .later }
def CnfTidyMeansUptoCardSaid : Prop := Claim7.holds Tryz.pinned (.plain (OpenSpec.upto cnfTidyMeansSpec)) cnfTidyMeansUptoCard
end Rows
end Go.Proofs.YtnadmnhkfdkafaaGreatDoor
