/- For every input the law DriverRight returns true: what is thought is a right control, and one that is too fast gives no throttle, and brakes. No condition. -/
import Derived.Test.YtheedafdaolooaaRight
import Derived.Test.YtheedafdaolooaaRows
import Derived.Handed
import Derived.JoinedOf
namespace Go.Proofs.Ytheedafdaolooaa
open Go.Se Go.ChangeShapes Go.WideShapes Go.ChangeAt Go.RowKit
set_option maxRecDepth 100000
theorem right_loop (K : KC) (n m : Nat) (X Y Z : Nat → Int) (th br st : Int) (rs : Bool) (hm : m ≤ 1000000) (P : Bool → Prop)
    (hP : ∀ (b : Bool) (j : Int), P b → afterE rightE (keepW rightR 0) Try.f3 rightPath 0 K (.exit 0) (rightS n m X Y Z th br st rs b j)) : ∀ (f i : Nat) (fast : Bool), i + f = m → P (fastF Z f i fast) →
    loopE rightE (keepW rightR 0) Try.f3 rightPath 0 0 K (f + 1) (rightS n m X Y Z th br st rs fast i)
  | f, i, fast, hf, hK => by
    rw [loopE_succ, right_round]
    refine Br.of (fun c1 => Br.of (fun c2 => If.mk ?_ ?_) fun c2 => ?_) fun c1 => ?_
    · have := of_decide_eq_true c1
      simp only [Bool.and_eq_true, decide_eq_true_eq]; omega
    · have c1' := of_decide_eq_true c1
      cases f with
      | zero => omega
      | succ f =>
        rw [wi64, show ((i : Int) + 1 + 9223372036854775808) % 18446744073709551616 - 9223372036854775808 = ((i + 1 : Nat) : Int) by omega]
        unfold fastF at hK
        rw [c2, Bool.true_and] at hK
        exact right_loop K n m X Y Z th br st rs hm P hP f (i + 1) _ (by omega) hK
    · have c1' := of_decide_eq_true c1
      cases f with
      | zero => omega
      | succ f =>
        rw [wi64, show ((i : Int) + 1 + 9223372036854775808) % 18446744073709551616 - 9223372036854775808 = ((i + 1 : Nat) : Int) by omega]
        unfold fastF at hK
        rw [c2, Bool.false_and] at hK
        exact right_loop K n m X Y Z th br st rs hm P hP f (i + 1) _ (by omega) hK
    · have c1' := of_decide_eq_false c1
      cases f with
      | zero => exact hP _ _ hK
      | succ f => omega

theorem rightA_law {st : Int} {fast good : Bool} {K : KC} (h1 : -127 ≤ st) (h2 : st ≤ 127) (hg : good = true ∨ fast = false) (hK : K (.bool true) [] []) : rightA st fast good K := by
  unfold rightA
  refine Br.of (fun _ => Br.of (fun c => ?_) fun _ => Br.of (fun _ => hK) fun c => ?_) fun c => ?_
  · rw [decide_eq_true h2] at c; cases c
  · rcases hg with rfl | rfl
    · exact hK
    · cases c
  · have := of_decide_eq_false c; omega

theorem course_eq (V : Val) : argSV tab.tt 8 40 V = .agg [.ro (V.len [0]) 2 (farCells (fun i => V.int [0, i, 0]) (fun i => V.int [0, i, 1])), .ro (V.len [1]) 1 (cellsZ fun i => V.int [1, i])] := by kernel_rfl

theorem right_law (V : Val) : runL rightR (fun _ => 0) kR 6 rightId (argsSV tab.tt 8 0 [37, 40, 54] V) [] fun v _ _ => v = .bool true := by
  show runL rightR (fun _ => 0) kR 6 rightId [argSV tab.tt 8 37 (V.sub 0), argSV tab.tt 8 40 (V.sub 1), argSV tab.tt 8 54 (V.sub 2)] [] _
  rw [course_eq, right_entry]
  generalize hXg : (fun i => (V.sub 1).int [0, i, 0]) = X
  generalize hYg : (fun i => (V.sub 1).int [0, i, 1]) = Y
  generalize hZg : (fun i => (V.sub 1).int [1, i]) = Z
  generalize (V.sub 1).len [0] = n
  generalize (V.sub 1).len [1] = m
  refine Br.of (fun _ => Br.of (fun _ => Br.of (fun _ => Br.of (fun _ => ?_) fun _ => rfl) fun _ => rfl) fun _ => rfl) fun _ => rfl
  refine ⟨_, _, rfl, Br.of (fun _ => Br.of (fun c1 => Br.of (fun _ => rfl) fun c2 => ?_) fun _ => rfl) fun _ => rfl⟩
  have hn := of_decide_eq_true c1
  have hm : ((m : Int) ≤ 100) := by simpa using c2
  refine ⟨false, V.sub 0, V.sub 2, X, Y, Z, n, m, ⟨rfl, rfl, by omega⟩, m + 1, right_loop _ n m X Y Z _ _ _ _ (by omega) (fun b => b = fastF Z m 0 true) (fun b j hb => ?_) m 0 true (by omega) rfl⟩
  subst hb
  generalize whatSeen (V.sub 0) (V.sub 2) = s
  have hst := stW_range s n m X Y
  rcases right_cases s n m X Y Z with ⟨h1, h2⟩ | ⟨h1, h2, h3⟩
  · rw [h1, h2, right_after1]
    exact rightA_law hst.1 hst.2 (.inl rfl) rfl
  · rcases h1 with h1 | h1 | h1
    · rw [h1, h2, right_after2]
      exact rightA_law hst.1 hst.2 (.inr h3) rfl
    · rw [h1, h2, right_after3]
      exact rightA_law hst.1 hst.2 (.inr h3) rfl
    · rw [h1, h2, right_after4]
      exact rightA_law hst.1 hst.2 (.inr h3) rfl

theorem own : ownKnob Try.prog.godebug = none := by kernel_rfl
theorem laidOut : laidOutB Try.prog = true := by kernel_rfl
/-- A type's zero value. -/
noncomputable def zeroOf (t : TypeId) : Value := (((Try.prog.info? t).bind (·.zero)).getD (.bool false))

theorem right_lifted (os : Os) (started : os.Started) (H : Type) (enc : TypeId × Value → H) :
    ReturnsInHanded {} Try.checked os 3 .any (Rows.driverRightSpec.pre6 enc Try.prog Try.f3 Rows.driverRightRow.domain false) (Rows.driverRightSpec.post enc Try.prog Try.f3 false true false false) := by
  refine returnsInHanded_of_change (C := Try.checked) own started (by kernel_rfl) Try.func3
    (ChangeSpec.witness6 (enc := enc) (C := Try.checked) false ⟨#[], #[zeroOf 37, zeroOf 40, zeroOf 54], []⟩ 12 (by kernel_rfl) (by kernel_rfl) (by kernel_rfl) (by kernel_rfl)) ?_
  intro W base args ds gs before hval hW _ _
  exact law_post (C := Try.checked) laidOut tab.htt Try.func3 (by kernel_rfl) (d := 8) (by kernel_rfl) (by kernel_rfl) (tb := 4) (by kernel_rfl) (by kernel_rfl) rfl
    (fun ds h => by
      match ds, h with
      | [d1, d2, d3], _ => rfl)
    (Φ := fun V => calls (tab.env kR (fun _ => 0) (fun _ => false)) (keepW rightR) kR.dom 6 3 (argsSV tab.tt 8 0 Try.f3.params.toList V) [])
    (fun V => calls_sat (env := tab.env kR (fun _ => 0) (fun _ => false)) ⟨tab.htt, kR.ok⟩ tab.mixed (fun n => keepW_weaker n rightR) tab.hft 6 _ _ _)
    (fun V => right_law V) W base args ds gs before hval hW

theorem driverRight_holds : Rows.DriverRightSaid :=
  OpenClaim.holds_of_wide 3 Try.f3 rfl rfl rfl rfl rfl rfl rfl ⟨rfl, rfl, rfl, rfl, rfl⟩ rfl rfl rfl rfl rfl (by kernel_rfl) Try.func3 (by kernel_rfl)
    (of_decide_eq_true (by kernel_rfl)) (by unfold Func.isWrapper; first | (rw [if_pos (by decide +kernel)]; kernel_rfl) | (rw [if_neg (by decide +kernel)]; exact ⟨rfl, rfl⟩))
    (fun os started H enc _ => right_lifted os started H enc)
end Go.Proofs.Ytheedafdaolooaa
