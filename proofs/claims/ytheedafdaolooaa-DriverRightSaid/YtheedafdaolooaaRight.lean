import Derived.Test.YtheedafdaolooaaFew
import Derived.Test.YtheedafdaolooaaSeThink
namespace Go.Proofs.Ytheedafdaolooaa
open Go.Se
set_option maxRecDepth 100000
abbrev rightId : FuncId := 3
def rightR : List (Nat × Keep) := [(0, ⟨[4, 8, 9, 10, 6], [1, 4], [3, 4], 5⟩)]
def rightS (n m : Nat) (X Y Z : Nat → Int) (th br st : Int) (rs fast : Bool) (i : Int) : St :=
  ⟨[(4, .ptr 1 0), (8, .ptr 4 0), (9, .bool fast), (10, .int .i64 i), (6, .bool false)],
    [(1, some (.cells 40 [.ro n 2 (farCells X Y), .ro m 1 (cellsZ Z)])), (4, some (.cells 60 (cellsOf (ctl th br st rs))))], 5, [3, 4], 71⟩
abbrev rightPath : List Nat := [1, 1, 1, 1, 1, 0, 1, 0]
noncomputable abbrev rightE : Env := envL rightR (fun _ => 0) kR 5
theorem right_round (K : Ex → St → Prop) (n m : Nat) (X Y Z : Nat → Int) (th br st : Int) (rs fast : Bool) (i : Nat) : roundE rightE (keepW rightR 0) Try.f3 rightPath 0 K (rightS n m X Y Z th br st rs fast i) =
    Br (decide ((i : Int) < m)) (Br fast (If (decide (0 ≤ (i : Int)) && decide ((i : Int) < m)) (K .normal (rightS n m X Y Z th br st rs (decide (Z i < -8589934592)) (IntKind.i64.wrap (i + 1)))))
      (K .normal (rightS n m X Y Z th br st rs false (IntKind.i64.wrap (i + 1))))) (K (.exit 0) (rightS n m X Y Z th br st rs fast i)) := by kernel_rfl
def rightA (st : Int) (fast good : Bool) (K : KC) : Prop :=
  Br (decide (-127 ≤ st)) (Br (!decide (st ≤ 127)) (K (.bool false) [] []) (Br (!fast) (K (.bool true) [] []) (K (.bool good) [] []))) (K (.bool false) [] [])
theorem right_after1 (K : KC) (n m : Nat) (X Y Z : Nat → Int) (st : Int) (rs fast : Bool) (i : Int) : afterE rightE (keepW rightR 0) Try.f3 rightPath 0 K (.exit 0) (rightS n m X Y Z 0 255 st rs fast i) = rightA st fast true K := by kernel_rfl
theorem right_after2 (K : KC) (n m : Nat) (X Y Z : Nat → Int) (st : Int) (rs fast : Bool) (i : Int) : afterE rightE (keepW rightR 0) Try.f3 rightPath 0 K (.exit 0) (rightS n m X Y Z 0 0 st rs fast i) = rightA st fast false K := by kernel_rfl
theorem right_after3 (K : KC) (n m : Nat) (X Y Z : Nat → Int) (st : Int) (rs fast : Bool) (i : Int) : afterE rightE (keepW rightR 0) Try.f3 rightPath 0 K (.exit 0) (rightS n m X Y Z 128 0 st rs fast i) = rightA st fast false K := by kernel_rfl
theorem right_after4 (K : KC) (n m : Nat) (X Y Z : Nat → Int) (st : Int) (rs fast : Bool) (i : Int) : afterE rightE (keepW rightR 0) Try.f3 rightPath 0 K (.exit 0) (rightS n m X Y Z 255 0 st rs fast i) = rightA st fast false K := by kernel_rfl
def rowsV (V : Val) : Nat → List SV := rowsC (fun i => V.len [5, 2, i]) (fun i j => [.int .i64 (V.int [5, 2, i, j])])
theorem right_entry (K : KC) (Vc Vs : Val) (n m : Nat) (X Y Z : Nat → Int) :
    runL rightR (fun _ => 0) kR 6 rightId [argSV tab.tt 8 37 Vc, .agg [.ro n 2 (farCells X Y), .ro m 1 (cellsZ Z)], argSV tab.tt 8 54 Vs] [] K =
    Br (decide ((Vc.len [4] : Int) ≤ 40)) (Br (decide ((Vc.len [6] : Int) ≤ 40)) (Br (decide ((Vc.len [7] : Int) ≤ 40)) (Br (decide ((Vc.len [16] : Int) ≤ 20))
      (∃ L G, rowsV Vc = rowsC L G ∧ Br (fewV (Vc.len [5, 0]) (Vc.len [5, 1]) (Vc.len [5, 2]) L) (Br (decide ((n : Int) ≤ 100)) (Br (!decide ((m : Int) ≤ 100)) (K (.bool true) [] [])
        (∃ (o : Bool) (Vc' Vs' : Val) (X' Y' Z' : Nat → Int) (n' m' : Nat), ([.ptr 0 0, argSV tab.tt 8 37 Vc, .ro n 2 (farCells X Y), .ro m 1 (cellsZ Z), argSV tab.tt 8 54 Vs] = [.ptr 0 0, argSV tab.tt 8 37 Vc', .ro n' 2 (farCells X' Y'), .ro m' 1 (cellsZ Z'), argSV tab.tt 8 54 Vs'] ∧ overC mT false = overC mT o ∧ n' ≤ 1000000) ∧
          ∃ k, loopE rightE (keepW rightR 0) Try.f3 rightPath 0 0 K k (rightS n m X Y Z (thW (whatSeen Vc' Vs') n' m' X' Y' Z') (brW (whatSeen Vc' Vs') n' m' X' Y' Z') (stW (whatSeen Vc' Vs') n' m' X' Y') (rsW (whatSeen Vc' Vs') n' m' X' Y') true 0))) (K (.bool true) [] [])) (K (.bool true) [] []))
      (K (.bool true) [] [])) (K (.bool true) [] [])) (K (.bool true) [] [])) (K (.bool true) [] []) := by kernel_rfl
end Go.Proofs.Ytheedafdaolooaa
