/-
  DERIVED. GIVEN WITH THE SEED: THE CARDS: each row of YtgmkbcoahilkhaaDoorRows.lean that lists a variable, with what it lists TIED to the program's text (the seventh form; the later family's looks); each row that meets fmt, with fmt's text TOLD by the authors' own Lean function (tested against real Go, not proved from fmt's source: count such statements apart). THE CARD IS WHAT COUNTS. Prove the row's statement (the work); the ties are given (YtgmkbcoahilkhaaDoorTie.lean); close each card by the builder's one call (the guide's Derived/Test/ToyasCard.lean, 'card_holds'). Laid BY PROGRAM, IN A SANDBOX (cutbox-door.mjs). By AI agents, Wed Nov 11 2026. No macro, syntax, notation, axiom, sorry.
-/
import Derived.Test.YtgmkbcoahilkhaaDoorRows
import GoSem.ClaimSeven
namespace Go.Proofs.YtgmkbcoahilkhaaDoor
namespace Rows

/-- THE TIED CARD OF 'intarsialaw32.BoundRooms'. -/
def boundRoomsCard : Claim7 := { stood := { row := boundRoomsRow, standIns := [], harness := (true, "be55a474e13d1be04cea334823aadcc3098a844556ede2a8f5ec1eb7a7f9b968"), looks := false }, kinds := [], alts := [], laidByText := true, laidKinds := [.data, .pinned], laidTests := true, laidLooks := .later }
def BoundRoomsCardSaid : Prop := Claim7.holds Tryd.pinned (.plain (OpenSpec.ofChange boundRoomsSpec)) boundRoomsCard

/-- THE SECOND FORM's CARD OF 'intarsialaw32.BoundRooms'. -/
def boundRoomsUptoCard : Claim7 := { stood := { row := boundRoomsUptoRow, standIns := [], harness := (true, "be55a474e13d1be04cea334823aadcc3098a844556ede2a8f5ec1eb7a7f9b968"), looks := false }, kinds := [], alts := [], laidByText := true, laidKinds := [.data, .pinned], laidTests := true, laidLooks := .later }
def BoundRoomsUptoCardSaid : Prop := Claim7.holds Tryd.pinned (.plain (OpenSpec.upto boundRoomsSpec)) boundRoomsUptoCard
end Rows
end Go.Proofs.YtgmkbcoahilkhaaDoor
