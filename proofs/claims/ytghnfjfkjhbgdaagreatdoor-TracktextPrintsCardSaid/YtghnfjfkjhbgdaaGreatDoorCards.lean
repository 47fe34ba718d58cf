/-
  DERIVED. GIVEN WITH THE SEED: THE CARDS: each row of YtghnfjfkjhbgdaaGreatDoorRows.lean that lists a variable, with what it lists TIED to the program's text (the seventh form; the later family's looks); each row that meets fmt, with fmt's text TOLD by the authors' own Lean function (tested against real Go, not proved from fmt's source: count such statements apart). THE CARD IS WHAT COUNTS. Prove the row's statement (the work); the ties are given (YtghnfjfkjhbgdaaGreatDoorTie.lean); close each card by the builder's one call (the guide's Derived/Test/ToyasCard.lean, 'card_holds'). Laid BY PROGRAM, IN A SANDBOX (cutbox-door.mjs). By AI agents, Wed Nov 11 2026. No macro, syntax, notation, axiom, sorry.
-/
import Derived.Test.YtghnfjfkjhbgdaaGreatDoorRows
import GoSem.ClaimSeven
namespace Go.Proofs.YtghnfjfkjhbgdaaGreatDoor
namespace Rows

/-- THE TIED CARD OF 'chicanelaw37.TracktextPrints'. -/
def tracktextPrintsCard : Claim7 := { stood := { row := tracktextPrintsRow, standIns := [], harness := (true, "f53b1b7cc4118d58c601c7af34df9c41dddf3461b17283ac86cab688b01fd35b"), looks := true }, kinds := [], alts := [], laidByText := true, laidKinds := [.data, .handle, .pinned], laidTests := true, laidLooks := .later }
def TracktextPrintsCardSaid : Prop := Claim7.holds Tryz.pinned (.plain (OpenSpec.ofChange tracktextPrintsSpec)) tracktextPrintsCard

/-- THE TIED CARD OF 'chicanelaw37.TracktextParses'. -/
def tracktextParsesCard : Claim7 := { stood := { row := tracktextParsesRow, standIns := [], harness := (true, "f53b1b7cc4118d58c601c7af34df9c41dddf3461b17283ac86cab688b01fd35b"), looks := true }, kinds := [], alts := [], laidByText := true, laidKinds := [.data, .handle, .pinned], laidTests := true, laidLooks := .later }
def TracktextParsesCardSaid : Prop := Claim7.holds Tryz.pinned (.plain (OpenSpec.ofChange tracktextParsesSpec)) tracktextParsesCard

/-- THE TIED CARD OF 'chicanelaw37.TracktextBack'. -/
def tracktextBackCard : Claim7 := { stood := { row := tracktextBackRow, standIns := [], harness := (true, "f53b1b7cc4118d58c601c7af34df9c41dddf3461b17283ac86cab688b01fd35b"), looks := true }, kinds := [], alts := [], laidByText := true, laidKinds := [.data, .handle, .pinned], laidTests := true, laidLooks := .later }
def TracktextBackCardSaid : Prop := Claim7.holds Tryz.pinned (.plain (OpenSpec.ofChange tracktextBackSpec)) tracktextBackCard

/-- THE TIED CARD OF 'chicanelaw37.TracktextMay'. -/
def tracktextMayCard : Claim7 := { stood := { row := tracktextMayRow, standIns := [], harness := (true, "f53b1b7cc4118d58c601c7af34df9c41dddf3461b17283ac86cab688b01fd35b"), looks := true }, kinds := [], alts := [], laidByText := true, laidKinds := [.data, .handle, .pinned], laidTests := true, laidLooks := .later }
def TracktextMayCardSaid : Prop := Claim7.holds Tryz.pinned (.plain (OpenSpec.ofChange tracktextMaySpec)) tracktextMayCard

/-- THE SECOND FORM's CARD OF 'chicanelaw37.TracktextPrints'. -/
def tracktextPrintsUptoCard : Claim7 := { stood := { row := tracktextPrintsUptoRow, standIns := [], harness := (true, "f53b1b7cc4118d58c601c7af34df9c41dddf3461b17283ac86cab688b01fd35b"), looks := true }, kinds := [], alts := [], laidByText := true, laidKinds := [.data, .handle, .pinned], laidTests := true, laidLooks := .later }
def TracktextPrintsUptoCardSaid : Prop := Claim7.holds Tryz.pinned (.plain (OpenSpec.upto tracktextPrintsSpec)) tracktextPrintsUptoCard

/-- THE SECOND FORM's CARD OF 'chicanelaw37.TracktextParses'. -/
def tracktextParsesUptoCard : Claim7 := { stood := { row := tracktextParsesUptoRow, standIns := [], harness := (true, "f53b1b7cc4118d58c601c7af34df9c41dddf3461b17283ac86cab688b01fd35b"), looks := true }, kinds := [], alts := [], laidByText := true, laidKinds := [.data, .handle, .pinned], laidTests := true, laidLooks := .later }
def TracktextParsesUptoCardSaid : Prop := Claim7.holds Tryz.pinned (.plain (OpenSpec.upto tracktextParsesSpec)) tracktextParsesUptoCard

/-- THE SECOND FORM's CARD OF 'chicanelaw37.TracktextBack'. -/
def tracktextBackUptoCard : Claim7 := { stood := { row := tracktextBackUptoRow, standIns := [], harness := (true, "f53b1b7cc4118d58c601c7af34df9c41dddf3461b17283ac86cab688b01fd35b"), looks := true }, kinds := [], alts := [], laidByText := true, laidKinds := [.data, .handle, .pinned], laidTests := true, laidLooks := .later }
def TracktextBackUptoCardSaid : Prop := Claim7.holds Tryz.pinned (.plain (OpenSpec.upto tracktextBackSpec)) tracktextBackUptoCard

/-- THE SECOND FORM's CARD OF 'chicanelaw37.TracktextMay'. -/
def tracktextMayUptoCard : Claim7 := { stood := { row := tracktextMayUptoRow, standIns := [], harness := (true, "f53b1b7cc4118d58c601c7af34df9c41dddf3461b17283ac86cab688b01fd35b"), looks := true }, kinds := [], alts := [], laidByText := true, laidKinds := [.data, .handle, .pinned], laidTests := true, laidLooks := .later }
def TracktextMayUptoCardSaid : Prop := Claim7.holds Tryz.pinned (.plain (OpenSpec.upto tracktextMaySpec)) tracktextMayUptoCard
end Rows
end Go.Proofs.YtghnfjfkjhbgdaaGreatDoor
