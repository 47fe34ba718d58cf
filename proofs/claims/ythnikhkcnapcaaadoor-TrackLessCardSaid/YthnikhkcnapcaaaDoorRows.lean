/-
  NARROWER THAN 'FOR EVERY INPUT', by the rows' own cells (each row's printed sentence says how): TrackBars: laid · TrackStarts: laid · TrackLess: laid.
  DERIVED. THE GIVEN ROWS OF THIS SEAT. 3 by the template 'for every input the law returns true; each argument reads behind the call as it read before'; 0 by the template 'total and deterministic' (their statements: YthnikhkcnapcaaaDoorTotals.lean).
  GIVEN WITH THE SEED: the statements are not yours to turn. If you find one false, say at which input.
  Laid BY PROGRAM, IN A SANDBOX (cutbox-rows.mjs): the forced cells as the released guide's own fill.sh prints them over the translation 73a6e76865a49a77… (all of the seat's roots in one cut). By AI agents, Wed Nov 11 2026. No macro, syntax, notation, axiom, sorry.
-/
import Derived.Test.YthnikhkcnapcaaaDoorChecked
import GoSem.Claim
import GoSem.ClaimJoined
import GoSem.ClaimMapViews
import Derived.JoinedTies
import Derived.KernelRfl
namespace Go.Proofs.YthnikhkcnapcaaaDoor
/- THE CELL 'sum', in the pinned program and in every row, IS THE sha256 OF THE DUMP (.gsa) THAT YthnikhkcnapcaaaDoorProg.lean LOADS. Nothing in Lean hashes anything: it is a label: what it is worth is what the hold of that sum in a sandbox is worth. -/
noncomputable def Tryd.pinned : Pinned := { name := "ythnikhkcnapcaaadoor", sum := "73a6e76865a49a77614996972941829caf9fed89f5bdbcef59412e9f428312f6", checked := Tryd.checked }
namespace Rows
def none {H : Type} : Left H := { results := [], args := [] }

/- WHAT THE LISTED PACKAGE-LEVEL VARIABLES READ AS WHEN THE CALL BEGINS. Each datum BY PROGRAM (the guide's laid-datum.mjs) off the statement by which the dump's own 'gosem.cut.vars' lays the variable. In a bare row this is a premise. The card (YthnikhkcnapcaaaDoorCards.lean) ties it to the program's text. -/
def laid_errors_errorType {H : Type} : DataW H := .iface "internal/reflectlite.rtype" (.agg [.ptr (.lit (.string [101, 114, 114, 111, 114]))])

/-- 'chicanelaw14.TrackBars': WHATEVER THE INPUT: true; the input reads as it did. -/
def trackBarsSpec : ChangeSpec := { name := "trackBars", fn := fun _ => fun
  | [d] => { results := [.lit (.bool true)], args := [d] }
  | _ => none }
def trackBarsRow : OpenClaim := { program := "ythnikhkcnapcaaadoor", sum := "73a6e76865a49a77614996972941829caf9fed89f5bdbcef59412e9f428312f6", func := "chicane/chicanelaw14.TrackBars", spec := "trackBars", inPlace := ["math/bits.Sub64", "math/bits.Add64", "internal/reflectlite.ValueOf", "(internal/reflectlite.Value).Type", "(internal/reflectlite.Value).IsNil", "internal/reflectlite.TypeOf", "(internal/reflectlite.Value).Elem", "(internal/reflectlite.Value).Set"], unfollowed := true, recurses := true, named := ["math/bits.divideError", "math/bits.overflowError", "errors.errorType"], apart := false, laid := [("errors.errorType", laid_errors_errorType)] }
def TrackBarsSaid : Prop := trackBarsRow.holds Tryd.pinned (OpenSpec.ofChange trackBarsSpec)

/-- ITS FALSE NEIGHBOUR: 'it returns false'. Refute it at one input. -/
def trackBarsWrong : ChangeSpec := { name := "trackBars", fn := fun _ => fun
  | [d] => { results := [.lit (.bool false)], args := [d] }
  | _ => none }
def TrackBarsWrongFalsely : Prop := trackBarsRow.holds Tryd.pinned (OpenSpec.ofChange trackBarsWrong)

/-- 'chicanelaw14.TrackStarts': WHATEVER THE INPUT: true; the input reads as it did. -/
def trackStartsSpec : ChangeSpec := { name := "trackStarts", fn := fun _ => fun
  | [d] => { results := [.lit (.bool true)], args := [d] }
  | _ => none }
def trackStartsRow : OpenClaim := { program := "ythnikhkcnapcaaadoor", sum := "73a6e76865a49a77614996972941829caf9fed89f5bdbcef59412e9f428312f6", func := "chicane/chicanelaw14.TrackStarts", spec := "trackStarts", inPlace := ["math/bits.Sub64", "math/bits.Add64", "internal/reflectlite.ValueOf", "(internal/reflectlite.Value).Type", "(internal/reflectlite.Value).IsNil", "internal/reflectlite.TypeOf", "(internal/reflectlite.Value).Elem", "(internal/reflectlite.Value).Set"], unfollowed := true, recurses := true, named := ["math/bits.divideError", "math/bits.overflowError", "errors.errorType"], apart := false, laid := [("errors.errorType", laid_errors_errorType)] }
def TrackStartsSaid : Prop := trackStartsRow.holds Tryd.pinned (OpenSpec.ofChange trackStartsSpec)

/-- ITS FALSE NEIGHBOUR: 'it returns false'. Refute it at one input. -/
def trackStartsWrong : ChangeSpec := { name := "trackStarts", fn := fun _ => fun
  | [d] => { results := [.lit (.bool false)], args := [d] }
  | _ => none }
def TrackStartsWrongFalsely : Prop := trackStartsRow.holds Tryd.pinned (OpenSpec.ofChange trackStartsWrong)

/-- 'chicanelaw14.TrackLess': WHATEVER THE INPUT: true; the input reads as it did. -/
def trackLessSpec : ChangeSpec := { name := "trackLess", fn := fun _ => fun
  | [d] => { results := [.lit (.bool true)], args := [d] }
  | _ => none }
def trackLessRow : OpenClaim := { program := "ythnikhkcnapcaaadoor", sum := "73a6e76865a49a77614996972941829caf9fed89f5bdbcef59412e9f428312f6", func := "chicane/chicanelaw14.TrackLess", spec := "trackLess", inPlace := ["math/bits.Sub64", "math/bits.Add64", "internal/reflectlite.ValueOf", "(internal/reflectlite.Value).Type", "(internal/reflectlite.Value).IsNil", "internal/reflectlite.TypeOf", "(internal/reflectlite.Value).Elem", "(internal/reflectlite.Value).Set"], unfollowed := true, recurses := true, named := ["math/bits.divideError", "math/bits.overflowError", "errors.errorType"], apart := false, laid := [("errors.errorType", laid_errors_errorType)] }
def TrackLessSaid : Prop := trackLessRow.holds Tryd.pinned (OpenSpec.ofChange trackLessSpec)

/-- ITS FALSE NEIGHBOUR: 'it returns false'. Refute it at one input. -/
def trackLessWrong : ChangeSpec := { name := "trackLess", fn := fun _ => fun
  | [d] => { results := [.lit (.bool false)], args := [d] }
  | _ => none }
def TrackLessWrongFalsely : Prop := trackLessRow.holds Tryd.pinned (OpenSpec.ofChange trackLessWrong)

/- THE SECOND FORM. 'bulk': how many values and letters a reading holds, each counted each time it is reached (what is shared counts as often as it is met; a slice's spare places count too). A statement '..UptoSaid' is the law's where the arguments, and the package variables that the reading takes, are together of bulk at most 1048576: NARROWER than '..Said'. Prove '..Said' where nothing that the law and all that it calls make is longer than what came in: it says more and counts as full. Else prove '..UptoSaid'. A law counts once. -/
mutual
def uptoBulk {H : Type} : DataW H → Nat
  | .lit (.string bytes) => bytes.length + 1
  | .lit _ => 1
  | .nil => 1
  | .ptr d => uptoBulk d + 1
  | .slice elems spare => uptoBulkAll elems + uptoBulkAll spare + 1
  | .agg parts => uptoBulkAll parts + 1
  | .iface _ d => uptoBulk d + 1
  | .map entries => uptoBulkEntries entries + 1
  | .held _ => 1
def uptoBulkAll {H : Type} : List (DataW H) → Nat
  | [] => 0
  | d :: r => uptoBulk d + uptoBulkAll r
def uptoBulkEntries {H : Type} : List (Lit × DataW H) → Nat
  | [] => 0
  | x :: r => uptoBulkEntry x + uptoBulkEntries r
def uptoBulkEntry {H : Type} : Lit × DataW H → Nat
  | (.string bytes, d) => bytes.length + uptoBulk d + 1
  | (_, d) => uptoBulk d + 1
 end
def uptoSmall : (H : Type) → List (DataW H) → Bool := fun _ ds => decide (uptoBulkAll ds ≤ 1048576)
def OpenSpec.upto (s : _root_.Go.ChangeSpec) : _root_.Go.OpenSpec := { _root_.Go.OpenSpec.ofChange s with cond := some uptoSmall }

/-- 'chicanelaw14.TrackBars', WHERE WHAT IT READS IS OF BULK AT MOST 1048576: true; the input reads as it did. -/
def trackBarsUptoRow : OpenClaim := { program := "ythnikhkcnapcaaadoor", sum := "73a6e76865a49a77614996972941829caf9fed89f5bdbcef59412e9f428312f6", func := "chicane/chicanelaw14.TrackBars", spec := "trackBars", inPlace := ["math/bits.Sub64", "math/bits.Add64", "internal/reflectlite.ValueOf", "(internal/reflectlite.Value).Type", "(internal/reflectlite.Value).IsNil", "internal/reflectlite.TypeOf", "(internal/reflectlite.Value).Elem", "(internal/reflectlite.Value).Set"], unfollowed := true, recurses := true, named := ["math/bits.divideError", "math/bits.overflowError", "errors.errorType"], apart := false, laid := [("errors.errorType", laid_errors_errorType)], narrowed := true }
def TrackBarsUptoSaid : Prop := trackBarsUptoRow.holds Tryd.pinned (OpenSpec.upto trackBarsSpec)

/-- 'chicanelaw14.TrackStarts', WHERE WHAT IT READS IS OF BULK AT MOST 1048576: true; the input reads as it did. -/
def trackStartsUptoRow : OpenClaim := { program := "ythnikhkcnapcaaadoor", sum := "73a6e76865a49a77614996972941829caf9fed89f5bdbcef59412e9f428312f6", func := "chicane/chicanelaw14.TrackStarts", spec := "trackStarts", inPlace := ["math/bits.Sub64", "math/bits.Add64", "internal/reflectlite.ValueOf", "(internal/reflectlite.Value).Type", "(internal/reflectlite.Value).IsNil", "internal/reflectlite.TypeOf", "(internal/reflectlite.Value).Elem", "(internal/reflectlite.Value).Set"], unfollowed := true, recurses := true, named := ["math/bits.divideError", "math/bits.overflowError", "errors.errorType"], apart := false, laid := [("errors.errorType", laid_errors_errorType)], narrowed := true }
def TrackStartsUptoSaid : Prop := trackStartsUptoRow.holds Tryd.pinned (OpenSpec.upto trackStartsSpec)

/-- 'chicanelaw14.TrackLess', WHERE WHAT IT READS IS OF BULK AT MOST 1048576: true; the input reads as it did. -/
def trackLessUptoRow : OpenClaim := { program := "ythnikhkcnapcaaadoor", sum := "73a6e76865a49a77614996972941829caf9fed89f5bdbcef59412e9f428312f6", func := "chicane/chicanelaw14.TrackLess", spec := "trackLess", inPlace := ["math/bits.Sub64", "math/bits.Add64", "internal/reflectlite.ValueOf", "(internal/reflectlite.Value).Type", "(internal/reflectlite.Value).IsNil", "internal/reflectlite.TypeOf", "(internal/reflectlite.Value).Elem", "(internal/reflectlite.Value).Set"], unfollowed := true, recurses := true, named := ["math/bits.divideError", "math/bits.overflowError", "errors.errorType"], apart := false, laid := [("errors.errorType", laid_errors_errorType)], narrowed := true }
def TrackLessUptoSaid : Prop := trackLessUptoRow.holds Tryd.pinned (OpenSpec.upto trackLessSpec)

end Rows
end Go.Proofs.YthnikhkcnapcaaaDoor
