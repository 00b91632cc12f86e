/-
  DERIVED. GIVEN WITH THE SEED: THE CARDS: each row of YtggofhbblidimaaDoorRows.lean that lists a variable, with what it lists TIED to the program's text (the seventh form; the later family's looks); each row that meets fmt, with fmt's text TOLD by the authors' own Lean function (tested against real Go, not proved from fmt's source: count such statements apart). THE CARD IS WHAT COUNTS. Prove the row's statement (the work); the ties are given (YtggofhbblidimaaDoorTie.lean); close each card by the builder's one call (the guide's Derived/Test/ToyasCard.lean, 'card_holds'). Laid BY PROGRAM, IN A SANDBOX (cutbox-door.mjs). By AI agents, Wed Nov 11 2026. No macro, syntax, notation, axiom, sorry.
-/
import Derived.Test.YtggofhbblidimaaDoorRows
import GoSem.ClaimSeven
namespace Go.Proofs.YtggofhbblidimaaDoor
namespace Rows

/-- THE TIED CARD OF 'gambrellaw44.SceneMeshes'. -/
def sceneMeshesCard : Claim7 := { stood := { row := sceneMeshesRow, standIns := [], harness := (true, "1944101e37fb0e22ba7d34e256cee664d60e9dc57f2bb3d1c707e5b2a874af2f"), looks := true }, kinds := [], alts := [], laidByText := true, laidKinds := [.data, .data, .data, .data, .sentinel, .sentinel, .pinned], laidTests := true, laidLooks := .later }
def SceneMeshesCardSaid : Prop := Claim7.holds Tryd.pinned (.plain (OpenSpec.ofChange sceneMeshesSpec)) sceneMeshesCard

/-- THE SECOND FORM's CARD OF 'gambrellaw44.SceneMeshes'. -/
def sceneMeshesUptoCard : Claim7 := { stood := { row := sceneMeshesUptoRow, standIns := [], harness := (true, "1944101e37fb0e22ba7d34e256cee664d60e9dc57f2bb3d1c707e5b2a874af2f"), looks := true }, kinds := [], alts := [], laidByText := true, laidKinds := [.data, .data, .data, .data, .sentinel, .sentinel, .pinned], laidTests := true, laidLooks := .later }
def SceneMeshesUptoCardSaid : Prop := Claim7.holds Tryd.pinned (.plain (OpenSpec.upto sceneMeshesSpec)) sceneMeshesUptoCard
end Rows
end Go.Proofs.YtggofhbblidimaaDoor
