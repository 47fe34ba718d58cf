import Derived.Test.YthnikhkcnapcaaaDoorRd
import Derived.Test.YthnikhkcnapcaaaDoorRoot
import Derived.Test.YthnikhkcnapcaaaDoorSeNum
namespace Go.Proofs.YthnikhkcnapcaaaDoor
open Go.Se
set_option maxRecDepth 100000
noncomputable def q4 : Know Tryd.prog := q3
end Go.Proofs.YthnikhkcnapcaaaDoor

namespace Go.Proofs.YthnikhkcnapcaaaDoor
open Go.Se
set_option maxRecDepth 100000
def overR : List (Nat × Keep) := [(0, ⟨[8, 2, 3, 4, 5, 6, 7], [0, 1, 2, 3, 4, 5], [4, 5], 6, []⟩)]
def d4 (a b c d : Int) : List SV := [.int .u64 a, .int .u64 b, .int .u64 c, .int .u64 d]
abbrev overPath : List Nat := [1, 1, 0, 1, 0]
noncomputable abbrev overEn : Env := envL overR (fun _ => 0) q4 1
def digX (X : Int) : List SV := d4 (X % 4294967296) (X / 4294967296 % 4294967296) (X / 18446744073709551616 % 4294967296) (X / 79228162514264337593543950336 % 4294967296)
def digY (X : Int) : List SV := d4 (IntKind.u64.wrap (X % 4294967296 + 1)) (X / 4294967296 % 4294967296) (X / 18446744073709551616 % 4294967296) (X / 79228162514264337593543950336 % 4294967296)
theorem digY_eq (Q : Int) : digY (2 * Q + 0) = digX (2 * Q + 1) := by
  unfold digY digX
  rw [wu64, show (((2 * Q + 0) % 4294967296 + 1) % 18446744073709551616 : Int) = (2 * Q + 1) % 4294967296 by omega, show ((2 * Q + 0) / 4294967296 : Int) = (2 * Q + 1) / 4294967296 by omega, show ((2 * Q + 0) / 18446744073709551616 : Int) = (2 * Q + 1) / 18446744073709551616 by omega,
    show ((2 * Q + 0) / 79228162514264337593543950336 : Int) = (2 * Q + 1) / 79228162514264337593543950336 by omega]
def rooR : List (Nat × Keep) := [(0, ⟨[3, 4, 1, 2], [0], [], 1, []⟩)]
abbrev rooPath : List Nat := [1, 1, 1, 0, 1, 0]
noncomputable abbrev rooE : Env := envL rooR (fun _ => 0) q4 1
def upN (n i : Int) : Int := IntKind.u64.wrap (n + IntKind.u64.wrap (1 * 2 ^ min (IntKind.u64.wrap i).toNat IntKind.u64.bits))
noncomputable def q5 : Know Tryd.prog := q4
end Go.Proofs.YthnikhkcnapcaaaDoor

