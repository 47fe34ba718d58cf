/- For every text the law ScriptMay returns true: what is parsed is right, and comes back from its own text. No condition; the listed tables are tied to the program's text. -/
import Derived.Test.YtjlmofhokbnloaaDoorMi
import Derived.Test.YtjlmofhokbnloaaDoorRows
import Derived.Test.YtjlmofhokbnloaaDoorTie
import Derived.Test.YtjlmofhokbnloaaDoorCards
import Derived.Handed
import Derived.JoinedOf
import Derived.ProofKit
import Derived.Lay
import Derived.LaidMore
import Derived.LaidLaws
import Derived.LaidHandle
import Derived.SevenTiedAt
namespace Go.Proofs.YtjlmofhokbnloaaDoor
open Go.Se Go.ChangeShapes Go.WideShapes Go.ChangeAt Go.RowKit
set_option maxRecDepth 100000
def scriptMay_phi (_ : Val) (K : KC) : Prop := K (.bool true) [] []
theorem scriptMay_sat (V : Val) : Sat Tryd.prog 5 (argsSV tab.tt 8 0 [9] V) [] (scriptMay_phi V) := fun K hK => ⟨_, _, _, hK, by
  have e : argsSV tab.tt 8 0 [9] V = [.str ((V.sub 0).str [])] := by kernel_rfl
  rw [e]
  exact may_ok _⟩

theorem own : ownKnob Tryd.prog.godebug = none := by kernel_rfl
theorem laidOut : laidOutB Tryd.prog = true := by kernel_rfl
/-- A type's zero value. -/
noncomputable def zeroOf (t : TypeId) : Value := (((Tryd.prog.info? t).bind (·.zero)).getD (.bool false))
def laidX : List (String × DataW Unit) := Rows.scriptMayRow.laid
theorem scriptMay_lifted (os : Os) (started : os.Started) (H : Type) (enc : TypeId × Value → H) :
    ReturnsInHanded {} Tryd.checked os 5 .any (fun w args => (Rows.scriptMaySpec.pre enc Tryd.prog Tryd.f5 Rows.scriptMayRow.domain false w args ∧ laidMetH Tryd.prog laidX w) ∧ sizedMet enc Tryd.prog Tryd.f5 (OpenSpec.ofChange Rows.scriptMaySpec) false w args)
      (Rows.scriptMaySpec.post enc Tryd.prog Tryd.f5 false true false false) := by
  refine returnsInHanded_of_change_and (C := Tryd.checked) (X := fun w _ => laidMetH Tryd.prog laidX w) (fun _ _ _ hh h => h.of_heap hh) own started (by kernel_rfl) Tryd.func5
    (ChangeSpec.witness_shaped (enc := enc) (C := Tryd.checked) (os := os) (X := fun w _ => laidMetH Tryd.prog laidX w) false (World.laidAll Tryd.prog os laidX) #[.string ⟨#[]⟩] 12 (World.laidAll_os _ _ _)
      (World.shaped_of_ZipB (by kernel_rfl) (by kernel_rfl)) (by kernel_rfl) (by kernel_rfl) (by kernel_rfl)
      (by rw [MakeChecks.laidMetH_plain _ _ _ (by kernel_rfl)]; exact laidMet_laidAll _ (by kernel_rfl) (by kernel_rfl))) ?_
  intro W base args ds gs before hval hW _ _ hL _
  exact law_post (C := Tryd.checked) laidOut tab.htt Tryd.func5 (by kernel_rfl) (d := 8) (by kernel_rfl) (by kernel_rfl) (tb := 4) (by kernel_rfl) (by kernel_rfl) rfl
    (fun ds h => by
      match ds, h with
      | [d1], _ => rfl)
    (Φ := scriptMay_phi)
    scriptMay_sat
    (fun _ => rfl) W base args ds gs before (noHandle (by kernel_rfl)) hval hW
theorem scriptMay_holds : Rows.ScriptMaySaid :=
  OpenClaim.holds_of_wide 5 Tryd.f5 rfl rfl rfl rfl rfl rfl rfl ⟨rfl, rfl, rfl, rfl, rfl⟩ rfl rfl rfl rfl rfl (by kernel_rfl) Tryd.func5 (by kernel_rfl)
    (of_decide_eq_true (by kernel_rfl)) (by unfold Func.isWrapper; first | (rw [if_pos (by decide +kernel)]; kernel_rfl) | (rw [if_neg (by decide +kernel)]; exact ⟨rfl, rfl⟩))
    (fun os started H enc _ => scriptMay_lifted os started H enc)
theorem scriptMay_card : Rows.ScriptMayCardSaid :=
  Claim7.holds_tied_plain_at .later [] [.data, .pinned] true _ false scriptMay_holds (fun _ h => by cases h) (by kernel_rfl) (fun _ h => by cases h) scriptMay_row_tie rfl ⟨rfl, rfl⟩ (by kernel_rfl) rfl
    (fun f fn hf hfn => by
      obtain rfl : f = 5 := Option.some.inj ((show Tryd.prog.funcNamed "chicane/chicanelaw39.ScriptMay" = some 5 by kernel_rfl).symm.trans hf) |>.symm
      obtain rfl : fn = Tryd.f5 := (Option.some.inj (Tryd.func5.symm.trans hfn)).symm
      exact ⟨by kernel_rfl, fun j t ht => by
        have hp : Tryd.f5.params = #[9] := by kernel_rfl
        rw [hp] at ht
        have hm : t ∈ [9] := by simpa using Array.mem_of_getElem? ht
        have hall : ([9].all fun u => !Tryd.prog.wantsStandIn u) = true := by kernel_rfl
        exact (show Tryd.prog.wantsStandIn t = false by simpa using List.all_eq_true.1 hall t hm)⟩)
    (by kernel_rfl)
end Go.Proofs.YtjlmofhokbnloaaDoor
