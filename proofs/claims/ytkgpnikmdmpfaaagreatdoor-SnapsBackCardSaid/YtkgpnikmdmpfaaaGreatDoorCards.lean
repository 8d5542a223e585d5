/-
  DERIVED. GIVEN WITH THE SEED: THE CARDS: each row of YtkgpnikmdmpfaaaGreatDoorRows.lean that lists a variable, with what it lists TIED to the program's text (the seventh form; the later family's looks); each row that meets fmt, with fmt's text TOLD by the authors' own Lean function (tested against real Go, not proved from fmt's source: count such statements apart). THE CARD IS WHAT COUNTS. Prove the row's statement (the work); the ties are given (YtkgpnikmdmpfaaaGreatDoorTie.lean); close each card by the builder's one call (the guide's Derived/Test/ToyasCard.lean, 'card_holds'). Laid BY PROGRAM, IN A SANDBOX (cutbox-door.mjs). By AI agents, Wed Nov 11 2026. No macro, syntax, notation, axiom, sorry.
-/
import Derived.Test.YtkgpnikmdmpfaaaGreatDoorRows
import GoSem.ClaimSeven
namespace Go.Proofs.YtkgpnikmdmpfaaaGreatDoor
namespace Rows

/-- THE TIED CARD OF 'consignorlaw25.SnapsPut'. -/
def snapsPutCard : Claim7 := { stood := { row := snapsPutRow, standIns := [], harness := (true, "50dcdd935cfa2c859bc0cbae3654295996a3e6dd3abfe55b4f4bdc6ae03520f4"), looks := true }, kinds := [], alts := [], laidByText := true, laidKinds := [.data, .data, .data, .data, .mapped], laidTests := true, laidLooks := .later }
def SnapsPutCardSaid : Prop := Claim7.holds Tryz.pinned (.plain (OpenSpec.ofChange snapsPutSpec)) snapsPutCard

/-- THE TIED CARD OF 'consignorlaw25.SnapsBack'. -/
def snapsBackCard : Claim7 := { stood := { row := snapsBackRow, standIns := [], harness := (true, "50dcdd935cfa2c859bc0cbae3654295996a3e6dd3abfe55b4f4bdc6ae03520f4"), looks := true }, kinds := [], alts := [], laidByText := true, laidKinds := [.data, .data, .data, .data, .mapped], laidTests := true, laidLooks := .later }
def SnapsBackCardSaid : Prop := Claim7.holds Tryz.pinned (.plain (OpenSpec.ofChange snapsBackSpec)) snapsBackCard

/-- THE SECOND FORM's CARD OF 'consignorlaw25.SnapsPut'. -/
def snapsPutUptoCard : Claim7 := { stood := { row := snapsPutUptoRow, standIns := [], harness := (true, "50dcdd935cfa2c859bc0cbae3654295996a3e6dd3abfe55b4f4bdc6ae03520f4"), looks := true }, kinds := [], alts := [], laidByText := true, laidKinds := [.data, .data, .data, .data, .mapped], laidTests := true, laidLooks := .later }
def SnapsPutUptoCardSaid : Prop := Claim7.holds Tryz.pinned (.plain (OpenSpec.upto snapsPutSpec)) snapsPutUptoCard

/-- THE SECOND FORM's CARD OF 'consignorlaw25.SnapsBack'. -/
def snapsBackUptoCard : Claim7 := { stood := { row := snapsBackUptoRow, standIns := [], harness := (true, "50dcdd935cfa2c859bc0cbae3654295996a3e6dd3abfe55b4f4bdc6ae03520f4"), looks := true }, kinds := [], alts := [], laidByText := true, laidKinds := [.data, .data, .data, .data, .mapped], laidTests := true, laidLooks := .later }
def SnapsBackUptoCardSaid : Prop := Claim7.holds Tryz.pinned (.plain (OpenSpec.upto snapsBackSpec)) snapsBackUptoCard
end Rows
end Go.Proofs.YtkgpnikmdmpfaaaGreatDoor
