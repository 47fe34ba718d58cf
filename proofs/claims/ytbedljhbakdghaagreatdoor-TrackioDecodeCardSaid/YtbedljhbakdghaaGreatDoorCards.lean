/-
  DERIVED. GIVEN WITH THE SEED: THE CARDS: each row of YtbedljhbakdghaaGreatDoorRows.lean that lists a variable, with what it lists TIED to the program's text (the seventh form; the later family's looks); each row that meets fmt, with fmt's text TOLD by the authors' own Lean function (tested against real Go, not proved from fmt's source: count such statements apart). THE CARD IS WHAT COUNTS. Prove the row's statement (the work); the ties are given (YtbedljhbakdghaaGreatDoorTie.lean); close each card by the builder's one call (the guide's Derived/Test/ToyasCard.lean, 'card_holds'). Laid BY PROGRAM, IN A SANDBOX (cutbox-door.mjs). By AI agents, Wed Nov 11 2026. No macro, syntax, notation, axiom, sorry.
-/
import Derived.Test.YtbedljhbakdghaaGreatDoorRows
import GoSem.ClaimSeven
namespace Go.Proofs.YtbedljhbakdghaaGreatDoor
namespace Rows

/-- THE TIED CARD OF 'chicanelaw15.TrackioEncode'. -/
def trackioEncodeCard : Claim7 := { stood := { row := trackioEncodeRow, standIns := [], harness := (true, "ba3596536a769bf8b0c12354405e4000319a89f326c3f47d83b324f7ddd99a9f"), looks := true }, kinds := [], alts := [], laidByText := true, laidKinds := [.handle], laidTests := true, laidLooks := .later }
def TrackioEncodeCardSaid : Prop := Claim7.holds Tryz.pinned (.plain (OpenSpec.ofChange trackioEncodeSpec)) trackioEncodeCard

/-- THE TIED CARD OF 'chicanelaw15.TrackioDecode'. -/
def trackioDecodeCard : Claim7 := { stood := { row := trackioDecodeRow, standIns := [], harness := (true, "ba3596536a769bf8b0c12354405e4000319a89f326c3f47d83b324f7ddd99a9f"), looks := true }, kinds := [], alts := [], laidByText := true, laidKinds := [.handle], laidTests := true, laidLooks := .later }
def TrackioDecodeCardSaid : Prop := Claim7.holds Tryz.pinned (.plain (OpenSpec.ofChange trackioDecodeSpec)) trackioDecodeCard

/-- THE TIED CARD OF 'chicanelaw15.TrackioBack'. -/
def trackioBackCard : Claim7 := { stood := { row := trackioBackRow, standIns := [], harness := (true, "ba3596536a769bf8b0c12354405e4000319a89f326c3f47d83b324f7ddd99a9f"), looks := true }, kinds := [], alts := [], laidByText := true, laidKinds := [.handle], laidTests := true, laidLooks := .later }
def TrackioBackCardSaid : Prop := Claim7.holds Tryz.pinned (.plain (OpenSpec.ofChange trackioBackSpec)) trackioBackCard

/-- THE TIED CARD OF 'chicanelaw15.TrackioOne'. -/
def trackioOneCard : Claim7 := { stood := { row := trackioOneRow, standIns := [], harness := (true, "ba3596536a769bf8b0c12354405e4000319a89f326c3f47d83b324f7ddd99a9f"), looks := true }, kinds := [], alts := [], laidByText := true, laidKinds := [.handle], laidTests := true, laidLooks := .later }
def TrackioOneCardSaid : Prop := Claim7.holds Tryz.pinned (.plain (OpenSpec.ofChange trackioOneSpec)) trackioOneCard

/-- THE SECOND FORM's CARD OF 'chicanelaw15.TrackioEncode'. -/
def trackioEncodeUptoCard : Claim7 := { stood := { row := trackioEncodeUptoRow, standIns := [], harness := (true, "ba3596536a769bf8b0c12354405e4000319a89f326c3f47d83b324f7ddd99a9f"), looks := true }, kinds := [], alts := [], laidByText := true, laidKinds := [.handle], laidTests := true, laidLooks := .later }
def TrackioEncodeUptoCardSaid : Prop := Claim7.holds Tryz.pinned (.plain (OpenSpec.upto trackioEncodeSpec)) trackioEncodeUptoCard

/-- THE SECOND FORM's CARD OF 'chicanelaw15.TrackioDecode'. -/
def trackioDecodeUptoCard : Claim7 := { stood := { row := trackioDecodeUptoRow, standIns := [], harness := (true, "ba3596536a769bf8b0c12354405e4000319a89f326c3f47d83b324f7ddd99a9f"), looks := true }, kinds := [], alts := [], laidByText := true, laidKinds := [.handle], laidTests := true, laidLooks := .later }
def TrackioDecodeUptoCardSaid : Prop := Claim7.holds Tryz.pinned (.plain (OpenSpec.upto trackioDecodeSpec)) trackioDecodeUptoCard

/-- THE SECOND FORM's CARD OF 'chicanelaw15.TrackioBack'. -/
def trackioBackUptoCard : Claim7 := { stood := { row := trackioBackUptoRow, standIns := [], harness := (true, "ba3596536a769bf8b0c12354405e4000319a89f326c3f47d83b324f7ddd99a9f"), looks := true }, kinds := [], alts := [], laidByText := true, laidKinds := [.handle], laidTests := true, laidLooks := .later }
def TrackioBackUptoCardSaid : Prop := Claim7.holds Tryz.pinned (.plain (OpenSpec.upto trackioBackSpec)) trackioBackUptoCard

/-- THE SECOND FORM's CARD OF 'chicanelaw15.TrackioOne'. -/
def trackioOneUptoCard : Claim7 := { stood := { row := trackioOneUptoRow, standIns := [], harness := (true, "ba3596536a769bf8b0c12354405e4000319a89f326c3f47d83b324f7ddd99a9f"), looks := true }, kinds := [], alts := [], laidByText := true, laidKinds := [.handle], laidTests := true, laidLooks := .later }
def TrackioOneUptoCardSaid : Prop := Claim7.holds Tryz.pinned (.plain (OpenSpec.upto trackioOneSpec)) trackioOneUptoCard
end Rows
end Go.Proofs.YtbedljhbakdghaaGreatDoor
