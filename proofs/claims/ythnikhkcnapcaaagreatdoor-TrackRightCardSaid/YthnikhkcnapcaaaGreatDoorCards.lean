/-
  DERIVED. GIVEN WITH THE SEED: THE CARDS: each row of YthnikhkcnapcaaaGreatDoorRows.lean that lists a variable, with what it lists TIED to the program's text (the seventh form; the later family's looks); each row that meets fmt, with fmt's text TOLD by the authors' own Lean function (tested against real Go, not proved from fmt's source: count such statements apart). THE CARD IS WHAT COUNTS. Prove the row's statement (the work); the ties are given (YthnikhkcnapcaaaGreatDoorTie.lean); close each card by the builder's one call (the guide's Derived/Test/ToyasCard.lean, 'card_holds'). Laid BY PROGRAM, IN A SANDBOX (cutbox-door.mjs). By AI agents, Wed Nov 11 2026. No macro, syntax, notation, axiom, sorry.
-/
import Derived.Test.YthnikhkcnapcaaaGreatDoorRows
import GoSem.ClaimSeven
namespace Go.Proofs.YthnikhkcnapcaaaGreatDoor
namespace Rows

/-- THE TIED CARD OF 'chicanelaw14.TrackRight'. -/
def trackRightCard : Claim7 := { stood := { row := trackRightRow, standIns := [], harness := (true, "bba8fd37554c9d424552bbb8ef7136105cfd19938077849d58863c7e91924973"), looks := true }, kinds := [], alts := [], laidByText := true, laidKinds := [.handle], laidTests := true, laidLooks := .later }
def TrackRightCardSaid : Prop := Claim7.holds Tryz.pinned (.plain (OpenSpec.ofChange trackRightSpec)) trackRightCard

/-- THE SECOND FORM's CARD OF 'chicanelaw14.TrackRight'. -/
def trackRightUptoCard : Claim7 := { stood := { row := trackRightUptoRow, standIns := [], harness := (true, "bba8fd37554c9d424552bbb8ef7136105cfd19938077849d58863c7e91924973"), looks := true }, kinds := [], alts := [], laidByText := true, laidKinds := [.handle], laidTests := true, laidLooks := .later }
def TrackRightUptoCardSaid : Prop := Claim7.holds Tryz.pinned (.plain (OpenSpec.upto trackRightSpec)) trackRightUptoCard
end Rows
end Go.Proofs.YthnikhkcnapcaaaGreatDoor
