/-
  DERIVED. GIVEN WITH THE SEED: THE CARDS: each row of YtehfgmagmnjffaaGreatDoorRows.lean that lists a variable, with what it lists TIED to the program's text (the seventh form; the later family's looks); each row that meets fmt, with fmt's text TOLD by the authors' own Lean function (tested against real Go, not proved from fmt's source: count such statements apart). THE CARD IS WHAT COUNTS. Prove the row's statement (the work); the ties are given (YtehfgmagmnjffaaGreatDoorTie.lean); close each card by the builder's one call (the guide's Derived/Test/ToyasCard.lean, 'card_holds'). Laid BY PROGRAM, IN A SANDBOX (cutbox-door.mjs). By AI agents, Wed Nov 11 2026. No macro, syntax, notation, axiom, sorry.
-/
import Derived.Test.YtehfgmagmnjffaaGreatDoorRows
import GoSem.ClaimSeven
namespace Go.Proofs.YtehfgmagmnjffaaGreatDoor
namespace Rows

/-- THE TIED CARD OF 'cachetlaw21.NoteHeads'. -/
def noteHeadsCard : Claim7 := { stood := { row := noteHeadsRow, standIns := [], harness := (true, "bda70c1380e0b0f2742140b24cad4a106f3252e5953b30ee783005c1aace6e9e"), looks := true }, kinds := [], alts := [], laidByText := true, laidKinds := [.data, .data, .data, .data, .sentinel, .sentinel, .pinned], laidTests := true, laidLooks := .later }
def NoteHeadsCardSaid : Prop := Claim7.holds Tryz.pinned (.plain (OpenSpec.ofChange noteHeadsSpec)) noteHeadsCard

/-- THE TIED CARD OF 'cachetlaw21.NoteParses'. -/
def noteParsesCard : Claim7 := { stood := { row := noteParsesRow, standIns := [], harness := (true, "bda70c1380e0b0f2742140b24cad4a106f3252e5953b30ee783005c1aace6e9e"), looks := true }, kinds := [], alts := [], laidByText := true, laidKinds := [.data, .data, .data, .data, .sentinel, .sentinel, .pinned], laidTests := true, laidLooks := .later }
def NoteParsesCardSaid : Prop := Claim7.holds Tryz.pinned (.plain (OpenSpec.ofChange noteParsesSpec)) noteParsesCard

/-- THE TIED CARD OF 'cachetlaw21.NoteReceipts'. -/
def noteReceiptsCard : Claim7 := { stood := { row := noteReceiptsRow, standIns := [], harness := (true, "bda70c1380e0b0f2742140b24cad4a106f3252e5953b30ee783005c1aace6e9e"), looks := true }, kinds := [], alts := [], laidByText := true, laidKinds := [.data, .data, .data, .data, .sentinel, .sentinel, .pinned], laidTests := true, laidLooks := .later }
def NoteReceiptsCardSaid : Prop := Claim7.holds Tryz.pinned (.plain (OpenSpec.ofChange noteReceiptsSpec)) noteReceiptsCard

/-- THE SECOND FORM's CARD OF 'cachetlaw21.NoteHeads'. -/
def noteHeadsUptoCard : Claim7 := { stood := { row := noteHeadsUptoRow, standIns := [], harness := (true, "bda70c1380e0b0f2742140b24cad4a106f3252e5953b30ee783005c1aace6e9e"), looks := true }, kinds := [], alts := [], laidByText := true, laidKinds := [.data, .data, .data, .data, .sentinel, .sentinel, .pinned], laidTests := true, laidLooks := .later }
def NoteHeadsUptoCardSaid : Prop := Claim7.holds Tryz.pinned (.plain (OpenSpec.upto noteHeadsSpec)) noteHeadsUptoCard

/-- THE SECOND FORM's CARD OF 'cachetlaw21.NoteParses'. -/
def noteParsesUptoCard : Claim7 := { stood := { row := noteParsesUptoRow, standIns := [], harness := (true, "bda70c1380e0b0f2742140b24cad4a106f3252e5953b30ee783005c1aace6e9e"), looks := true }, kinds := [], alts := [], laidByText := true, laidKinds := [.data, .data, .data, .data, .sentinel, .sentinel, .pinned], laidTests := true, laidLooks := .later }
def NoteParsesUptoCardSaid : Prop := Claim7.holds Tryz.pinned (.plain (OpenSpec.upto noteParsesSpec)) noteParsesUptoCard

/-- THE SECOND FORM's CARD OF 'cachetlaw21.NoteReceipts'. -/
def noteReceiptsUptoCard : Claim7 := { stood := { row := noteReceiptsUptoRow, standIns := [], harness := (true, "bda70c1380e0b0f2742140b24cad4a106f3252e5953b30ee783005c1aace6e9e"), looks := true }, kinds := [], alts := [], laidByText := true, laidKinds := [.data, .data, .data, .data, .sentinel, .sentinel, .pinned], laidTests := true, laidLooks := .later }
def NoteReceiptsUptoCardSaid : Prop := Claim7.holds Tryz.pinned (.plain (OpenSpec.upto noteReceiptsSpec)) noteReceiptsUptoCard
end Rows
end Go.Proofs.YtehfgmagmnjffaaGreatDoor
