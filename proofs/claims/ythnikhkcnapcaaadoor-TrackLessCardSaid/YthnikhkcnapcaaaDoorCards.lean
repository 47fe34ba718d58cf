/-
  DERIVED. GIVEN WITH THE SEED: THE CARDS: each row of YthnikhkcnapcaaaDoorRows.lean that lists a variable, with what it lists TIED to the program's text (the seventh form; the later family's looks); each row that meets fmt, with fmt's text TOLD by the authors' own Lean function (tested against real Go, not proved from fmt's source: count such statements apart). THE CARD IS WHAT COUNTS. Prove the row's statement (the work); the ties are given (YthnikhkcnapcaaaDoorTie.lean); close each card by the builder's one call (the guide's Derived/Test/ToyasCard.lean, 'card_holds'). Laid BY PROGRAM, IN A SANDBOX (cutbox-door.mjs). By AI agents, Wed Nov 11 2026. No macro, syntax, notation, axiom, sorry.
-/
import Derived.Test.YthnikhkcnapcaaaDoorRows
import GoSem.ClaimSeven
namespace Go.Proofs.YthnikhkcnapcaaaDoor
namespace Rows

/-- THE TIED CARD OF 'chicanelaw14.TrackBars'. -/
def trackBarsCard : Claim7 := { stood := { row := trackBarsRow, standIns := [], harness := (true, "4ec92760072dc33f7b9bcca92064ac34349f32057e8702e3a8e07284e0452194"), looks := true }, kinds := [], alts := [], laidByText := true, laidKinds := [.handle], laidTests := true, laidLooks := .later }
def TrackBarsCardSaid : Prop := Claim7.holds Tryd.pinned (.plain (OpenSpec.ofChange trackBarsSpec)) trackBarsCard

/-- THE TIED CARD OF 'chicanelaw14.TrackStarts'. -/
def trackStartsCard : Claim7 := { stood := { row := trackStartsRow, standIns := [], harness := (true, "4ec92760072dc33f7b9bcca92064ac34349f32057e8702e3a8e07284e0452194"), looks := true }, kinds := [], alts := [], laidByText := true, laidKinds := [.handle], laidTests := true, laidLooks := .later }
def TrackStartsCardSaid : Prop := Claim7.holds Tryd.pinned (.plain (OpenSpec.ofChange trackStartsSpec)) trackStartsCard

/-- THE TIED CARD OF 'chicanelaw14.TrackLess'. -/
def trackLessCard : Claim7 := { stood := { row := trackLessRow, standIns := [], harness := (true, "4ec92760072dc33f7b9bcca92064ac34349f32057e8702e3a8e07284e0452194"), looks := true }, kinds := [], alts := [], laidByText := true, laidKinds := [.handle], laidTests := true, laidLooks := .later }
def TrackLessCardSaid : Prop := Claim7.holds Tryd.pinned (.plain (OpenSpec.ofChange trackLessSpec)) trackLessCard

/-- THE SECOND FORM's CARD OF 'chicanelaw14.TrackBars'. -/
def trackBarsUptoCard : Claim7 := { stood := { row := trackBarsUptoRow, standIns := [], harness := (true, "4ec92760072dc33f7b9bcca92064ac34349f32057e8702e3a8e07284e0452194"), looks := true }, kinds := [], alts := [], laidByText := true, laidKinds := [.handle], laidTests := true, laidLooks := .later }
def TrackBarsUptoCardSaid : Prop := Claim7.holds Tryd.pinned (.plain (OpenSpec.upto trackBarsSpec)) trackBarsUptoCard

/-- THE SECOND FORM's CARD OF 'chicanelaw14.TrackStarts'. -/
def trackStartsUptoCard : Claim7 := { stood := { row := trackStartsUptoRow, standIns := [], harness := (true, "4ec92760072dc33f7b9bcca92064ac34349f32057e8702e3a8e07284e0452194"), looks := true }, kinds := [], alts := [], laidByText := true, laidKinds := [.handle], laidTests := true, laidLooks := .later }
def TrackStartsUptoCardSaid : Prop := Claim7.holds Tryd.pinned (.plain (OpenSpec.upto trackStartsSpec)) trackStartsUptoCard

/-- THE SECOND FORM's CARD OF 'chicanelaw14.TrackLess'. -/
def trackLessUptoCard : Claim7 := { stood := { row := trackLessUptoRow, standIns := [], harness := (true, "4ec92760072dc33f7b9bcca92064ac34349f32057e8702e3a8e07284e0452194"), looks := true }, kinds := [], alts := [], laidByText := true, laidKinds := [.handle], laidTests := true, laidLooks := .later }
def TrackLessUptoCardSaid : Prop := Claim7.holds Tryd.pinned (.plain (OpenSpec.upto trackLessSpec)) trackLessUptoCard
end Rows
end Go.Proofs.YthnikhkcnapcaaaDoor
