/- For every input the law DriverThinks returns true: the driver thinks what the document's answer says, and notes as it does whether all fits. No condition. -/
import Derived.Test.YthohgogofenamaaGreatRj
import Derived.Test.YthohgogofenamaaGreatQuat
import Derived.Test.YthohgogofenamaaGreatSeTrig
import Derived.Test.YthohgogofenamaaGreatRows
import Derived.Handed
import Derived.JoinedOf
namespace Go.Proofs.YthohgogofenamaaGreat
open Go.Se Go.ChangeShapes Go.WideShapes Go.ChangeAt Go.RowKit
set_option maxRecDepth 100000
abbrev thinksId : FuncId := 3
noncomputable def kS : Know Tryz.prog := kR.add 6 cThinkR rthink_sat
def rowsV (V : Val) : Nat → List SV := rowsC (fun i => V.len [5, 2, i]) (fun i j => [.int .i64 (V.int [5, 2, i, j])])
def eqC (a b c d e f : Int) (x y : Bool) : Bool := a == b && (c == d && ((0 : Int) == 0 && (e == f && ((1 : Int) == 1 && (true == true && x == y)))))
theorem thinks_entry (K : KC) (Vc Vs : Val) (n m : Nat) (X Y Z : Nat → Int) :
    run kS 6 thinksId [argSV tab.tt 8 37 Vc, .agg [.ro n 2 (farCells X Y), .ro m 1 (cellsZ Z)], argSV tab.tt 8 54 Vs] [] K =
    Br (decide ((Vc.len [4] : Int) ≤ 40)) (Br (decide ((Vc.len [6] : Int) ≤ 40)) (Br (decide ((Vc.len [7] : Int) ≤ 40)) (Br (decide ((Vc.len [16] : Int) ≤ 20))
      (∃ L G, rowsV Vc = rowsC L G ∧ Br (fewV (Vc.len [5, 0]) (Vc.len [5, 1]) (Vc.len [5, 2]) L) (Br (decide ((n : Int) ≤ 100)) (Br (!decide ((m : Int) ≤ 100)) (K (.bool true) [] [])
        (∃ (o : Bool) (Vc' Vs' : Val) (X' Y' Z' : Nat → Int) (n' m' : Nat), ([.ptr 0 0, argSV tab.tt 8 37 Vc, .ro n 2 (farCells X Y), .ro m 1 (cellsZ Z), argSV tab.tt 8 54 Vs] = [.ptr 0 0, argSV tab.tt 8 37 Vc', .ro n' 2 (farCells X' Y'), .ro m' 1 (cellsZ Z'), argSV tab.tt 8 54 Vs'] ∧ overC mT false = overC mT o ∧ n' ≤ 1000000) ∧
        (∃ (o2 : Bool) (Vc2 Vs2 : Val) (X2 Y2 Z2 : Nat → Int) (n2 m2 : Nat), ([.ptr 0 0, argSV tab.tt 8 37 Vc, .ro n 2 (farCells X Y), .ro m 1 (cellsZ Z), argSV tab.tt 8 54 Vs] = [.ptr 0 0, argSV tab.tt 8 37 Vc2, .ro n2 2 (farCells X2 Y2), .ro m2 1 (cellsZ Z2), argSV tab.tt 8 54 Vs2] ∧ overC rT false = overC rT o2 ∧ n2 ≤ 1000000) ∧
          Br (eqC (thW (whatSeen Vc' Vs') n' m' X' Y' Z') (thW (whatSeen Vc2 Vs2) n2 m2 X2 Y2 Z2) (brW (whatSeen Vc' Vs') n' m' X' Y' Z') (brW (whatSeen Vc2 Vs2) n2 m2 X2 Y2 Z2)
              (stW (whatSeen Vc' Vs') n' m' X' Y') (stW (whatSeen Vc2 Vs2) n2 m2 X2 Y2) (rsW (whatSeen Vc' Vs') n' m' X' Y') (rsW (whatSeen Vc2 Vs2) n2 m2 X2 Y2))
            (Br (thinkO (whatSeen Vc' Vs') n' m' X' Y' Z' o == thinkO (whatSeen Vc2 Vs2) n2 m2 X2 Y2 Z2 o2) (K (.bool true) [] []) (K (.bool false) [] [])) (K (.bool false) [] [])))) (K (.bool true) [] [])) (K (.bool true) [] []))
      (K (.bool true) [] [])) (K (.bool true) [] [])) (K (.bool true) [] [])) (K (.bool true) [] []) := by kernel_rfl
theorem course_eq (V : Val) : argSV tab.tt 8 40 V = .agg [.ro (V.len [0]) 2 (farCells (fun i => V.int [0, i, 0]) (fun i => V.int [0, i, 1])), .ro (V.len [1]) 1 (cellsZ fun i => V.int [1, i])] := by kernel_rfl
theorem thinks_law (V : Val) : run kS 6 thinksId (argsSV tab.tt 8 0 [37, 40, 54] V) [] fun v _ _ => v = .bool true := by
  show run kS 6 thinksId [argSV tab.tt 8 37 (V.sub 0), argSV tab.tt 8 40 (V.sub 1), argSV tab.tt 8 54 (V.sub 2)] [] _
  rw [course_eq, thinks_entry]
  generalize hXg : (fun i => (V.sub 1).int [0, i, 0]) = X
  generalize hYg : (fun i => (V.sub 1).int [0, i, 1]) = Y
  generalize hZg : (fun i => (V.sub 1).int [1, i]) = Z
  generalize (V.sub 1).len [0] = n
  generalize (V.sub 1).len [1] = m
  refine Br.of (fun _ => Br.of (fun _ => Br.of (fun _ => Br.of (fun _ => ?_) fun _ => rfl) fun _ => rfl) fun _ => rfl) fun _ => rfl
  refine ⟨_, _, rfl, Br.of (fun _ => Br.of (fun c1 => Br.of (fun _ => rfl) fun c2 => ?_) fun _ => rfl) fun _ => rfl⟩
  have hn := of_decide_eq_true c1
  refine ⟨false, V.sub 0, V.sub 2, X, Y, Z, n, m, ⟨rfl, rfl, by omega⟩, false, V.sub 0, V.sub 2, X, Y, Z, n, m, ⟨rfl, rfl, by omega⟩, ?_⟩
  refine Br.of (fun _ => Br.of (fun _ => rfl) fun h => ?_) fun h => ?_
  · rw [beq_self_eq_true] at h; cases h
  · unfold eqC at h; simp only [beq_self_eq_true, Bool.and_true] at h; cases h

theorem own : ownKnob Tryz.prog.godebug = none := by kernel_rfl
theorem laidOut : laidOutB Tryz.prog = true := by kernel_rfl
/-- A type's zero value. -/
noncomputable def zeroOf (t : TypeId) : Value := (((Tryz.prog.info? t).bind (·.zero)).getD (.bool false))

theorem thinks_lifted (os : Os) (started : os.Started) (H : Type) (enc : TypeId × Value → H) :
    ReturnsInHanded {} Tryz.checked os 3 .any (Rows.driverThinksSpec.pre6 enc Tryz.prog Tryz.f3 Rows.driverThinksRow.domain false) (Rows.driverThinksSpec.post enc Tryz.prog Tryz.f3 false true false false) := by
  refine returnsInHanded_of_change (C := Tryz.checked) own started (by kernel_rfl) Tryz.func3
    (ChangeSpec.witness6 (enc := enc) (C := Tryz.checked) false ⟨#[], #[zeroOf 37, zeroOf 40, zeroOf 54], []⟩ 12 (by kernel_rfl) (by kernel_rfl) (by kernel_rfl) (by kernel_rfl)) ?_
  intro W base args ds gs before hval hW _ _
  exact law_post (C := Tryz.checked) laidOut tab.htt Tryz.func3 (by kernel_rfl) (d := 8) (by kernel_rfl) (by kernel_rfl) (tb := 4) (by kernel_rfl) (by kernel_rfl) rfl
    (fun ds h => by
      match ds, h with
      | [d1, d2, d3], _ => rfl)
    (Φ := fun V => calls (tab.env kS (fun _ => 0) (fun _ => false)) (keepW []) kS.dom 6 3 (argsSV tab.tt 8 0 Tryz.f3.params.toList V) [])
    (fun V => calls_sat (env := tab.env kS (fun _ => 0) (fun _ => false)) ⟨tab.htt, kS.ok⟩ tab.mixed (fun n => keepW_weaker n []) tab.hft 6 _ _ _)
    (fun V => thinks_law V) W base args ds gs before hval hW

theorem driverThinks_holds : Rows.DriverThinksSaid :=
  OpenClaim.holds_of_wide 3 Tryz.f3 rfl rfl rfl rfl rfl rfl rfl ⟨rfl, rfl, rfl, rfl, rfl⟩ rfl rfl rfl rfl rfl (by kernel_rfl) Tryz.func3 (by kernel_rfl)
    (of_decide_eq_true (by kernel_rfl)) (by unfold Func.isWrapper; first | (rw [if_pos (by decide +kernel)]; kernel_rfl) | (rw [if_neg (by decide +kernel)]; exact ⟨rfl, rfl⟩))
    (fun os started H enc _ => thinks_lifted os started H enc)
end Go.Proofs.YthohgogofenamaaGreat
