/-
  DERIVED. GIVEN WITH THE SEED: THE CARDS: each row of YtfkhfofoginaiaaDoorRows.lean that lists a variable, with what it lists TIED to the program's text (the seventh form; the later family's looks); each row that meets fmt, with fmt's text TOLD by the authors' own Lean function (tested against real Go, not proved from fmt's source: count such statements apart). THE CARD IS WHAT COUNTS. Prove the row's statement (the work); the ties are given (YtfkhfofoginaiaaDoorTie.lean); close each card by the builder's one call (the guide's Derived/Test/ToyasCard.lean, 'card_holds'). Laid BY PROGRAM, IN A SANDBOX (cutbox-door.mjs). By AI agents, Wed Nov 11 2026. No macro, syntax, notation, axiom, sorry.
-/
import Derived.Test.YtfkhfofoginaiaaDoorRows
import GoSem.ClaimSeven
namespace Go.Proofs.YtfkhfofoginaiaaDoor
namespace Rows

/-- THE TIED CARD OF 'consignorlaw25.SnapsForm'. -/
def snapsFormCard : Claim7 := { stood := { row := snapsFormRow, standIns := [], harness := (true, "4ef757e38e1cb31763107eff6bd8e334e8ae0dee2d5d786ba810d300aa5f6f06"), looks := true }, kinds := [], alts := [], laidByText := true, laidKinds := [.data], laidTests := true, laidLooks := .later }
def SnapsFormCardSaid : Prop := Claim7.holds Tryd.pinned (.plain (OpenSpec.ofChange snapsFormSpec)) snapsFormCard

/-- THE SECOND FORM's CARD OF 'consignorlaw25.SnapsForm'. -/
def snapsFormUptoCard : Claim7 := { stood := { row := snapsFormUptoRow, standIns := [], harness := (true, "4ef757e38e1cb31763107eff6bd8e334e8ae0dee2d5d786ba810d300aa5f6f06"), looks := true }, kinds := [], alts := [], laidByText := true, laidKinds := [.data], laidTests := true, laidLooks := .later }
def SnapsFormUptoCardSaid : Prop := Claim7.holds Tryd.pinned (.plain (OpenSpec.upto snapsFormSpec)) snapsFormUptoCard
end Rows
end Go.Proofs.YtfkhfofoginaiaaDoor
