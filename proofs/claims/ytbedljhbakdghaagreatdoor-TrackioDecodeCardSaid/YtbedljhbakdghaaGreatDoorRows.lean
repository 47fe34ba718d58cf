/-
  NARROWER THAN 'FOR EVERY INPUT', by the rows' own cells (each row's printed sentence says how): TrackioEncode: laid · TrackioDecode: laid · TrackioBack: laid · TrackioOne: laid.
  DERIVED. THE GIVEN ROWS OF THIS SEAT. 4 by the template 'for every input the law returns true; each argument reads behind the call as it read before'; 0 by the template 'total and deterministic' (their statements: YtbedljhbakdghaaGreatDoorTotals.lean).
  GIVEN WITH THE SEED: the statements are not yours to turn. If you find one false, say at which input.
  Laid BY PROGRAM, IN A SANDBOX (cutbox-rows.mjs): the forced cells as the released guide's own fill.sh prints them over the translation a2e81129a420f719… (all of the seat's roots in one cut). By AI agents, Wed Nov 11 2026. No macro, syntax, notation, axiom, sorry.
-/
import Derived.Test.YtbedljhbakdghaaGreatDoorChecked
import GoSem.Claim
import GoSem.ClaimJoined
import GoSem.ClaimMapViews
import Derived.JoinedTies
import Derived.KernelRfl
namespace Go.Proofs.YtbedljhbakdghaaGreatDoor
/- THE CELL 'sum', in the pinned program and in every row, IS THE sha256 OF THE DUMP (.gsa) THAT YtbedljhbakdghaaGreatDoorProg.lean LOADS. Nothing in Lean hashes anything: it is a label: what it is worth is what the hold of that sum in a sandbox is worth. -/
noncomputable def Tryz.pinned : Pinned := { name := "ytbedljhbakdghaagreatdoor", sum := "a2e81129a420f7196a1e42c475bc29ad6aed7bec95ef1b3724820acfc69ae0d2", checked := Tryz.checked }
namespace Rows
def none {H : Type} : Left H := { results := [], args := [] }

/- WHAT THE LISTED PACKAGE-LEVEL VARIABLES READ AS WHEN THE CALL BEGINS. Each datum BY PROGRAM (the guide's laid-datum.mjs) off the statement by which the dump's own 'gosem.cut.vars' lays the variable. In a bare row this is a premise. The card (YtbedljhbakdghaaGreatDoorCards.lean) ties it to the program's text. -/
def laid_errors_errorType {H : Type} : DataW H := .iface "internal/reflectlite.rtype" (.agg [.ptr (.lit (.string [101, 114, 114, 111, 114]))])

/-- 'chicanelaw15.TrackioEncode': WHATEVER THE INPUT: true; the input reads as it did. -/
def trackioEncodeSpec : ChangeSpec := { name := "trackioEncode", fn := fun _ => fun
  | [d] => { results := [.lit (.bool true)], args := [d] }
  | _ => none }
def trackioEncodeRow : OpenClaim := { program := "ytbedljhbakdghaagreatdoor", sum := "a2e81129a420f7196a1e42c475bc29ad6aed7bec95ef1b3724820acfc69ae0d2", func := "chicane/chicanelaw15.TrackioEncode", spec := "trackioEncode", inPlace := ["math/bits.Sub64", "math/bits.Add64", "internal/reflectlite.ValueOf", "(internal/reflectlite.Value).Type", "(internal/reflectlite.Value).IsNil", "internal/reflectlite.TypeOf", "(internal/reflectlite.Value).Elem", "(internal/reflectlite.Value).Set"], unfollowed := true, recurses := true, named := ["math/bits.divideError", "math/bits.overflowError", "errors.errorType"], apart := false, laid := [("errors.errorType", laid_errors_errorType)] }
def TrackioEncodeSaid : Prop := trackioEncodeRow.holds Tryz.pinned (OpenSpec.ofChange trackioEncodeSpec)

/-- ITS FALSE NEIGHBOUR: 'it returns false'. Refute it at one input. -/
def trackioEncodeWrong : ChangeSpec := { name := "trackioEncode", fn := fun _ => fun
  | [d] => { results := [.lit (.bool false)], args := [d] }
  | _ => none }
def TrackioEncodeWrongFalsely : Prop := trackioEncodeRow.holds Tryz.pinned (OpenSpec.ofChange trackioEncodeWrong)

/-- 'chicanelaw15.TrackioDecode': WHATEVER THE INPUT: true; the input reads as it did. -/
def trackioDecodeSpec : ChangeSpec := { name := "trackioDecode", fn := fun _ => fun
  | [d] => { results := [.lit (.bool true)], args := [d] }
  | _ => none }
def trackioDecodeRow : OpenClaim := { program := "ytbedljhbakdghaagreatdoor", sum := "a2e81129a420f7196a1e42c475bc29ad6aed7bec95ef1b3724820acfc69ae0d2", func := "chicane/chicanelaw15.TrackioDecode", spec := "trackioDecode", inPlace := ["math/bits.Sub64", "math/bits.Add64", "internal/reflectlite.ValueOf", "(internal/reflectlite.Value).Type", "(internal/reflectlite.Value).IsNil", "internal/reflectlite.TypeOf", "(internal/reflectlite.Value).Elem", "(internal/reflectlite.Value).Set"], unfollowed := true, recurses := true, named := ["math/bits.divideError", "math/bits.overflowError", "errors.errorType"], apart := false, laid := [("errors.errorType", laid_errors_errorType)] }
def TrackioDecodeSaid : Prop := trackioDecodeRow.holds Tryz.pinned (OpenSpec.ofChange trackioDecodeSpec)

/-- ITS FALSE NEIGHBOUR: 'it returns false'. Refute it at one input. -/
def trackioDecodeWrong : ChangeSpec := { name := "trackioDecode", fn := fun _ => fun
  | [d] => { results := [.lit (.bool false)], args := [d] }
  | _ => none }
def TrackioDecodeWrongFalsely : Prop := trackioDecodeRow.holds Tryz.pinned (OpenSpec.ofChange trackioDecodeWrong)

/-- 'chicanelaw15.TrackioBack': WHATEVER THE INPUT: true; the input reads as it did. -/
def trackioBackSpec : ChangeSpec := { name := "trackioBack", fn := fun _ => fun
  | [d] => { results := [.lit (.bool true)], args := [d] }
  | _ => none }
def trackioBackRow : OpenClaim := { program := "ytbedljhbakdghaagreatdoor", sum := "a2e81129a420f7196a1e42c475bc29ad6aed7bec95ef1b3724820acfc69ae0d2", func := "chicane/chicanelaw15.TrackioBack", spec := "trackioBack", inPlace := ["math/bits.Sub64", "math/bits.Add64", "internal/reflectlite.ValueOf", "(internal/reflectlite.Value).Type", "(internal/reflectlite.Value).IsNil", "internal/reflectlite.TypeOf", "(internal/reflectlite.Value).Elem", "(internal/reflectlite.Value).Set"], unfollowed := true, recurses := true, named := ["math/bits.divideError", "math/bits.overflowError", "errors.errorType"], apart := false, laid := [("errors.errorType", laid_errors_errorType)] }
def TrackioBackSaid : Prop := trackioBackRow.holds Tryz.pinned (OpenSpec.ofChange trackioBackSpec)

/-- ITS FALSE NEIGHBOUR: 'it returns false'. Refute it at one input. -/
def trackioBackWrong : ChangeSpec := { name := "trackioBack", fn := fun _ => fun
  | [d] => { results := [.lit (.bool false)], args := [d] }
  | _ => none }
def TrackioBackWrongFalsely : Prop := trackioBackRow.holds Tryz.pinned (OpenSpec.ofChange trackioBackWrong)

/-- 'chicanelaw15.TrackioOne': WHATEVER THE INPUT: true; the input reads as it did. -/
def trackioOneSpec : ChangeSpec := { name := "trackioOne", fn := fun _ => fun
  | [d] => { results := [.lit (.bool true)], args := [d] }
  | _ => none }
def trackioOneRow : OpenClaim := { program := "ytbedljhbakdghaagreatdoor", sum := "a2e81129a420f7196a1e42c475bc29ad6aed7bec95ef1b3724820acfc69ae0d2", func := "chicane/chicanelaw15.TrackioOne", spec := "trackioOne", inPlace := ["math/bits.Sub64", "math/bits.Add64", "internal/reflectlite.ValueOf", "(internal/reflectlite.Value).Type", "(internal/reflectlite.Value).IsNil", "internal/reflectlite.TypeOf", "(internal/reflectlite.Value).Elem", "(internal/reflectlite.Value).Set"], unfollowed := true, recurses := true, named := ["math/bits.divideError", "math/bits.overflowError", "errors.errorType"], apart := false, laid := [("errors.errorType", laid_errors_errorType)] }
def TrackioOneSaid : Prop := trackioOneRow.holds Tryz.pinned (OpenSpec.ofChange trackioOneSpec)

/-- ITS FALSE NEIGHBOUR: 'it returns false'. Refute it at one input. -/
def trackioOneWrong : ChangeSpec := { name := "trackioOne", fn := fun _ => fun
  | [d] => { results := [.lit (.bool false)], args := [d] }
  | _ => none }
def TrackioOneWrongFalsely : Prop := trackioOneRow.holds Tryz.pinned (OpenSpec.ofChange trackioOneWrong)

/- THE SECOND FORM. 'bulk': how many values and letters a reading holds, each counted each time it is reached (what is shared counts as often as it is met; a slice's spare places count too). A statement '..UptoSaid' is the law's where the arguments, and the package variables that the reading takes, are together of bulk at most 1048576: NARROWER than '..Said'. Prove '..Said' where nothing that the law and all that it calls make is longer than what came in: it says more and counts as full. Else prove '..UptoSaid'. A law counts once. -/
mutual
def uptoBulk {H : Type} : DataW H → Nat
  | .lit (.string bytes) => bytes.length + 1
  | .lit _ => 1
  | .nil => 1
  | .ptr d => uptoBulk d + 1
  | .slice elems spare => uptoBulkAll elems + uptoBulkAll spare + 1
  | .agg parts => uptoBulkAll parts + 1
  | .iface _ d => uptoBulk d + 1
  | .map entries => uptoBulkEntries entries + 1
  | .held _ => 1
def uptoBulkAll {H : Type} : List (DataW H) → Nat
  | [] => 0
  | d :: r => uptoBulk d + uptoBulkAll r
def uptoBulkEntries {H : Type} : List (Lit × DataW H) → Nat
  | [] => 0
  | x :: r => uptoBulkEntry x + uptoBulkEntries r
def uptoBulkEntry {H : Type} : Lit × DataW H → Nat
  | (.string bytes, d) => bytes.length + uptoBulk d + 1
  | (_, d) => uptoBulk d + 1
 end
def uptoSmall : (H : Type) → List (DataW H) → Bool := fun _ ds => decide (uptoBulkAll ds ≤ 1048576)
def OpenSpec.upto (s : _root_.Go.ChangeSpec) : _root_.Go.OpenSpec := { _root_.Go.OpenSpec.ofChange s with cond := some uptoSmall }

/-- 'chicanelaw15.TrackioEncode', WHERE WHAT IT READS IS OF BULK AT MOST 1048576: true; the input reads as it did. -/
def trackioEncodeUptoRow : OpenClaim := { program := "ytbedljhbakdghaagreatdoor", sum := "a2e81129a420f7196a1e42c475bc29ad6aed7bec95ef1b3724820acfc69ae0d2", func := "chicane/chicanelaw15.TrackioEncode", spec := "trackioEncode", inPlace := ["math/bits.Sub64", "math/bits.Add64", "internal/reflectlite.ValueOf", "(internal/reflectlite.Value).Type", "(internal/reflectlite.Value).IsNil", "internal/reflectlite.TypeOf", "(internal/reflectlite.Value).Elem", "(internal/reflectlite.Value).Set"], unfollowed := true, recurses := true, named := ["math/bits.divideError", "math/bits.overflowError", "errors.errorType"], apart := false, laid := [("errors.errorType", laid_errors_errorType)], narrowed := true }
def TrackioEncodeUptoSaid : Prop := trackioEncodeUptoRow.holds Tryz.pinned (OpenSpec.upto trackioEncodeSpec)

/-- 'chicanelaw15.TrackioDecode', WHERE WHAT IT READS IS OF BULK AT MOST 1048576: true; the input reads as it did. -/
def trackioDecodeUptoRow : OpenClaim := { program := "ytbedljhbakdghaagreatdoor", sum := "a2e81129a420f7196a1e42c475bc29ad6aed7bec95ef1b3724820acfc69ae0d2", func := "chicane/chicanelaw15.TrackioDecode", spec := "trackioDecode", inPlace := ["math/bits.Sub64", "math/bits.Add64", "internal/reflectlite.ValueOf", "(internal/reflectlite.Value).Type", "(internal/reflectlite.Value).IsNil", "internal/reflectlite.TypeOf", "(internal/reflectlite.Value).Elem", "(internal/reflectlite.Value).Set"], unfollowed := true, recurses := true, named := ["math/bits.divideError", "math/bits.overflowError", "errors.errorType"], apart := false, laid := [("errors.errorType", laid_errors_errorType)], narrowed := true }
def TrackioDecodeUptoSaid : Prop := trackioDecodeUptoRow.holds Tryz.pinned (OpenSpec.upto trackioDecodeSpec)

/-- 'chicanelaw15.TrackioBack', WHERE WHAT IT READS IS OF BULK AT MOST 1048576: true; the input reads as it did. -/
def trackioBackUptoRow : OpenClaim := { program := "ytbedljhbakdghaagreatdoor", sum := "a2e81129a420f7196a1e42c475bc29ad6aed7bec95ef1b3724820acfc69ae0d2", func := "chicane/chicanelaw15.TrackioBack", spec := "trackioBack", inPlace := ["math/bits.Sub64", "math/bits.Add64", "internal/reflectlite.ValueOf", "(internal/reflectlite.Value).Type", "(internal/reflectlite.Value).IsNil", "internal/reflectlite.TypeOf", "(internal/reflectlite.Value).Elem", "(internal/reflectlite.Value).Set"], unfollowed := true, recurses := true, named := ["math/bits.divideError", "math/bits.overflowError", "errors.errorType"], apart := false, laid := [("errors.errorType", laid_errors_errorType)], narrowed := true }
def TrackioBackUptoSaid : Prop := trackioBackUptoRow.holds Tryz.pinned (OpenSpec.upto trackioBackSpec)

/-- 'chicanelaw15.TrackioOne', WHERE WHAT IT READS IS OF BULK AT MOST 1048576: true; the input reads as it did. -/
def trackioOneUptoRow : OpenClaim := { program := "ytbedljhbakdghaagreatdoor", sum := "a2e81129a420f7196a1e42c475bc29ad6aed7bec95ef1b3724820acfc69ae0d2", func := "chicane/chicanelaw15.TrackioOne", spec := "trackioOne", inPlace := ["math/bits.Sub64", "math/bits.Add64", "internal/reflectlite.ValueOf", "(internal/reflectlite.Value).Type", "(internal/reflectlite.Value).IsNil", "internal/reflectlite.TypeOf", "(internal/reflectlite.Value).Elem", "(internal/reflectlite.Value).Set"], unfollowed := true, recurses := true, named := ["math/bits.divideError", "math/bits.overflowError", "errors.errorType"], apart := false, laid := [("errors.errorType", laid_errors_errorType)], narrowed := true }
def TrackioOneUptoSaid : Prop := trackioOneUptoRow.holds Tryz.pinned (OpenSpec.upto trackioOneSpec)

end Rows
end Go.Proofs.YtbedljhbakdghaaGreatDoor
