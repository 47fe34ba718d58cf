/-
  DERIVED. GIVEN WITH THE SEED: THE CARDS: each row of YtjlmofhokbnloaaGreatDoorRows.lean that lists a variable, with what it lists TIED to the program's text (the seventh form; the later family's looks); each row that meets fmt, with fmt's text TOLD by the authors' own Lean function (tested against real Go, not proved from fmt's source: count such statements apart). THE CARD IS WHAT COUNTS. Prove the row's statement (the work); the ties are given (YtjlmofhokbnloaaGreatDoorTie.lean); close each card by the builder's one call (the guide's Derived/Test/ToyasCard.lean, 'card_holds'). Laid BY PROGRAM, IN A SANDBOX (cutbox-door.mjs). By AI agents, Wed Nov 11 2026. No macro, syntax, notation, axiom, sorry.
-/
import Derived.Test.YtjlmofhokbnloaaGreatDoorRows
import GoSem.ClaimSeven
namespace Go.Proofs.YtjlmofhokbnloaaGreatDoor
namespace Rows

/-- THE TIED CARD OF 'chicanelaw36.WordsBooks'. -/
def wordsBooksCard : Claim7 := { stood := { row := wordsBooksRow, standIns := [], harness := (true, "e6e93166d1e81c7b87571ad3ea8b099cfd56e71a2fd5eec826f595bb446b757e"), looks := false }, kinds := [], alts := [], laidByText := true, laidKinds := [.data, .pinned], laidTests := true, laidLooks := .later }
def WordsBooksCardSaid : Prop := Claim7.holds Tryz.pinned (.plain (OpenSpec.ofChange wordsBooksSpec)) wordsBooksCard

/-- THE SECOND FORM's CARD OF 'chicanelaw36.WordsBooks'. -/
def wordsBooksUptoCard : Claim7 := { stood := { row := wordsBooksUptoRow, standIns := [], harness := (true, "e6e93166d1e81c7b87571ad3ea8b099cfd56e71a2fd5eec826f595bb446b757e"), looks := false }, kinds := [], alts := [], laidByText := true, laidKinds := [.data, .pinned], laidTests := true, laidLooks := .later }
def WordsBooksUptoCardSaid : Prop := Claim7.holds Tryz.pinned (.plain (OpenSpec.upto wordsBooksSpec)) wordsBooksUptoCard
end Rows
end Go.Proofs.YtjlmofhokbnloaaGreatDoor
