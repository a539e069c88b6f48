/-
  DERIVED. GIVEN WITH THE SEED: THE CARDS: each row of YtcamimfepcoggaaDoorRows.lean that lists a variable, with what it lists TIED to the program's text (the seventh form; the later family's looks); each row that meets fmt, with fmt's text TOLD by the authors' own Lean function (tested against real Go, not proved from fmt's source: count such statements apart). THE CARD IS WHAT COUNTS. Prove the row's statement (the work); the ties are given (YtcamimfepcoggaaDoorTie.lean); close each card by the builder's one call (the guide's Derived/Test/ToyasCard.lean, 'card_holds'). Laid BY PROGRAM, IN A SANDBOX (cutbox-door.mjs). By AI agents, Wed Nov 11 2026. No macro, syntax, notation, axiom, sorry.
-/
import Derived.Test.YtcamimfepcoggaaDoorRows
import GoSem.ClaimSeven
namespace Go.Proofs.YtcamimfepcoggaaDoor
namespace Rows

/-- THE TIED CARD OF 'gantletlaw13.AsmPrints'. -/
def asmPrintsCard : Claim7 := { stood := { row := asmPrintsRow, standIns := [], harness := (true, "c348a446ea24f9b0a29358c51a6632488f0b62da76180aa26f9390189c0c9a33"), looks := true }, kinds := [], alts := [], laidByText := true, laidKinds := [.data, .data, .data, .data, .sentinel, .sentinel, .pinned], laidTests := true, laidLooks := .later }
def AsmPrintsCardSaid : Prop := Claim7.holds Tryd.pinned (.plain (OpenSpec.ofChange asmPrintsSpec)) asmPrintsCard

/-- THE TIED CARD OF 'gantletlaw13.AsmBack'. -/
def asmBackCard : Claim7 := { stood := { row := asmBackRow, standIns := [], harness := (true, "c348a446ea24f9b0a29358c51a6632488f0b62da76180aa26f9390189c0c9a33"), looks := true }, kinds := [], alts := [], laidByText := true, laidKinds := [.data, .data, .data, .data, .sentinel, .sentinel, .pinned], laidTests := true, laidLooks := .later }
def AsmBackCardSaid : Prop := Claim7.holds Tryd.pinned (.plain (OpenSpec.ofChange asmBackSpec)) asmBackCard

/-- THE TIED CARD OF 'gantletlaw13.AsmBeside'. -/
def asmBesideCard : Claim7 := { stood := { row := asmBesideRow, standIns := [], harness := (true, "c348a446ea24f9b0a29358c51a6632488f0b62da76180aa26f9390189c0c9a33"), looks := true }, kinds := [], alts := [], laidByText := true, laidKinds := [.data, .data, .data, .data, .sentinel, .sentinel, .pinned], laidTests := true, laidLooks := .later }
def AsmBesideCardSaid : Prop := Claim7.holds Tryd.pinned (.plain (OpenSpec.ofChange asmBesideSpec)) asmBesideCard

/-- THE TIED CARD OF 'gantletlaw13.AsmLong'. -/
def asmLongCard : Claim7 := { stood := { row := asmLongRow, standIns := [], harness := (true, "c348a446ea24f9b0a29358c51a6632488f0b62da76180aa26f9390189c0c9a33"), looks := true }, kinds := [], alts := [], laidByText := true, laidKinds := [.data, .data, .data, .data, .sentinel, .sentinel, .pinned], laidTests := true, laidLooks := .later }
def AsmLongCardSaid : Prop := Claim7.holds Tryd.pinned (.plain (OpenSpec.ofChange asmLongSpec)) asmLongCard

/-- THE TIED CARD OF 'gantletlaw13.AsmAlone'. -/
def asmAloneCard : Claim7 := { stood := { row := asmAloneRow, standIns := [], harness := (true, "c348a446ea24f9b0a29358c51a6632488f0b62da76180aa26f9390189c0c9a33"), looks := true }, kinds := [], alts := [], laidByText := true, laidKinds := [.data, .data, .data, .data, .sentinel, .sentinel, .pinned], laidTests := true, laidLooks := .later }
def AsmAloneCardSaid : Prop := Claim7.holds Tryd.pinned (.plain (OpenSpec.ofChange asmAloneSpec)) asmAloneCard

/-- THE SECOND FORM's CARD OF 'gantletlaw13.AsmPrints'. -/
def asmPrintsUptoCard : Claim7 := { stood := { row := asmPrintsUptoRow, standIns := [], harness := (true, "c348a446ea24f9b0a29358c51a6632488f0b62da76180aa26f9390189c0c9a33"), looks := true }, kinds := [], alts := [], laidByText := true, laidKinds := [.data, .data, .data, .data, .sentinel, .sentinel, .pinned], laidTests := true, laidLooks := .later }
def AsmPrintsUptoCardSaid : Prop := Claim7.holds Tryd.pinned (.plain (OpenSpec.upto asmPrintsSpec)) asmPrintsUptoCard

/-- THE SECOND FORM's CARD OF 'gantletlaw13.AsmBack'. -/
def asmBackUptoCard : Claim7 := { stood := { row := asmBackUptoRow, standIns := [], harness := (true, "c348a446ea24f9b0a29358c51a6632488f0b62da76180aa26f9390189c0c9a33"), looks := true }, kinds := [], alts := [], laidByText := true, laidKinds := [.data, .data, .data, .data, .sentinel, .sentinel, .pinned], laidTests := true, laidLooks := .later }
def AsmBackUptoCardSaid : Prop := Claim7.holds Tryd.pinned (.plain (OpenSpec.upto asmBackSpec)) asmBackUptoCard

/-- THE SECOND FORM's CARD OF 'gantletlaw13.AsmBeside'. -/
def asmBesideUptoCard : Claim7 := { stood := { row := asmBesideUptoRow, standIns := [], harness := (true, "c348a446ea24f9b0a29358c51a6632488f0b62da76180aa26f9390189c0c9a33"), looks := true }, kinds := [], alts := [], laidByText := true, laidKinds := [.data, .data, .data, .data, .sentinel, .sentinel, .pinned], laidTests := true, laidLooks := .later }
def AsmBesideUptoCardSaid : Prop := Claim7.holds Tryd.pinned (.plain (OpenSpec.upto asmBesideSpec)) asmBesideUptoCard

/-- THE SECOND FORM's CARD OF 'gantletlaw13.AsmLong'. -/
def asmLongUptoCard : Claim7 := { stood := { row := asmLongUptoRow, standIns := [], harness := (true, "c348a446ea24f9b0a29358c51a6632488f0b62da76180aa26f9390189c0c9a33"), looks := true }, kinds := [], alts := [], laidByText := true, laidKinds := [.data, .data, .data, .data, .sentinel, .sentinel, .pinned], laidTests := true, laidLooks := .later }
def AsmLongUptoCardSaid : Prop := Claim7.holds Tryd.pinned (.plain (OpenSpec.upto asmLongSpec)) asmLongUptoCard

/-- THE SECOND FORM's CARD OF 'gantletlaw13.AsmAlone'. -/
def asmAloneUptoCard : Claim7 := { stood := { row := asmAloneUptoRow, standIns := [], harness := (true, "c348a446ea24f9b0a29358c51a6632488f0b62da76180aa26f9390189c0c9a33"), looks := true }, kinds := [], alts := [], laidByText := true, laidKinds := [.data, .data, .data, .data, .sentinel, .sentinel, .pinned], laidTests := true, laidLooks := .later }
def AsmAloneUptoCardSaid : Prop := Claim7.holds Tryd.pinned (.plain (OpenSpec.upto asmAloneSpec)) asmAloneUptoCard
end Rows
end Go.Proofs.YtcamimfepcoggaaDoor
