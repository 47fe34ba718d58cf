/- For every text and every list of questions the law WordsBooks returns true: the program's book and the document's tell the same, question by question, and the same error first, at the same place. No condition; the listed tables are tied to the program's text. -/
import Derived.Test.YtjlmofhokbnloaaGreatDoorKj
import Derived.Test.YtjlmofhokbnloaaGreatDoorRows
import Derived.Test.YtjlmofhokbnloaaGreatDoorTie
import Derived.Test.YtjlmofhokbnloaaGreatDoorCards
import Derived.Handed
import Derived.JoinedOf
import Derived.ProofKit
import Derived.Lay
import Derived.LaidMore
import Derived.LaidLaws
import Derived.LaidHandle
import Derived.SevenTiedAt
namespace Go.Proofs.YtjlmofhokbnloaaGreatDoor
open Go.Se Go.ChangeShapes Go.WideShapes Go.ChangeAt Go.RowKit
set_option maxRecDepth 100000
def wordsBooks_phi (_ : Val) (K : KC) : Prop := K (.bool true) [] []
theorem wordsBooks_sat (V : Val) : Sat Tryz.prog 3 (argsSV tab.tt 8 0 [9, 22] V) [] (wordsBooks_phi V) := fun K hK => ⟨_, _, _, hK, by
  have e : argsSV tab.tt 8 0 [9, 22] V = [.str ((V.sub 0).str []), .ro ((V.sub 1).len []) 4 (opG (fun i => (((V.sub 1).sub i).sub 0).int []) (fun i => (((V.sub 1).sub i).sub 1).str []) (fun i => (((V.sub 1).sub i).sub 2).int []) (fun i => (((V.sub 1).sub i).sub 3).int []))] := by kernel_rfl
  rw [e]
  exact wbooks_ok _ _ _ _ _ _⟩

theorem own : ownKnob Tryz.prog.godebug = none := by kernel_rfl
theorem laidOut : laidOutB Tryz.prog = true := by kernel_rfl
/-- A type's zero value. -/
noncomputable def zeroOf (t : TypeId) : Value := (((Tryz.prog.info? t).bind (·.zero)).getD (.bool false))
def laidX : List (String × DataW Unit) := Rows.wordsBooksRow.laid
theorem wordsBooks_lifted (os : Os) (started : os.Started) (H : Type) (enc : TypeId × Value → H) :
    ReturnsInHanded {} Tryz.checked os 3 .any (fun w args => (Rows.wordsBooksSpec.pre enc Tryz.prog Tryz.f3 Rows.wordsBooksRow.domain false w args ∧ laidMetH Tryz.prog laidX w) ∧ sizedMet enc Tryz.prog Tryz.f3 (OpenSpec.ofChange Rows.wordsBooksSpec) false w args)
      (Rows.wordsBooksSpec.post enc Tryz.prog Tryz.f3 false true false false) := by
  refine returnsInHanded_of_change_and (C := Tryz.checked) (X := fun w _ => laidMetH Tryz.prog laidX w) (fun _ _ _ hh h => h.of_heap hh) own started (by kernel_rfl) Tryz.func3
    (ChangeSpec.witness_shaped (enc := enc) (C := Tryz.checked) (os := os) (X := fun w _ => laidMetH Tryz.prog laidX w) false (World.laidAll Tryz.prog os laidX) #[.string ⟨#[]⟩, .slice none 0 0] 12 (World.laidAll_os _ _ _)
      (World.shaped_of_ZipB (by kernel_rfl) (by kernel_rfl)) (by kernel_rfl) (by kernel_rfl) (by kernel_rfl)
      (by rw [MakeChecks.laidMetH_plain _ _ _ (by kernel_rfl)]; exact laidMet_laidAll _ (by kernel_rfl) (by kernel_rfl))) ?_
  intro W base args ds gs before hval hW _ _ hL _
  exact law_post (C := Tryz.checked) laidOut tab.htt Tryz.func3 (by kernel_rfl) (d := 8) (by kernel_rfl) (by kernel_rfl) (tb := 4) (by kernel_rfl) (by kernel_rfl) rfl
    (fun ds h => by
      match ds, h with
      | [d1, d2], _ => rfl)
    (Φ := wordsBooks_phi)
    wordsBooks_sat
    (fun _ => rfl) W base args ds gs before (noHandle (by kernel_rfl)) hval hW
theorem wordsBooks_holds : Rows.WordsBooksSaid :=
  OpenClaim.holds_of_wide 3 Tryz.f3 rfl rfl rfl rfl rfl rfl rfl ⟨rfl, rfl, rfl, rfl, rfl⟩ rfl rfl rfl rfl rfl (by kernel_rfl) Tryz.func3 (by kernel_rfl)
    (of_decide_eq_true (by kernel_rfl)) (by unfold Func.isWrapper; first | (rw [if_pos (by decide +kernel)]; kernel_rfl) | (rw [if_neg (by decide +kernel)]; exact ⟨rfl, rfl⟩))
    (fun os started H enc _ => wordsBooks_lifted os started H enc)
theorem wordsBooks_card : Rows.WordsBooksCardSaid :=
  Claim7.holds_tied_plain_at .later [] [.data, .pinned] true _ false wordsBooks_holds (fun _ h => by cases h) (by kernel_rfl) (fun _ h => by cases h) wordsBooks_row_tie rfl ⟨rfl, rfl⟩ (by kernel_rfl) rfl
    (fun f fn hf hfn => by
      obtain rfl : f = 3 := Option.some.inj ((show Tryz.prog.funcNamed "chicane/chicanelaw36.WordsBooks" = some 3 by kernel_rfl).symm.trans hf) |>.symm
      obtain rfl : fn = Tryz.f3 := (Option.some.inj (Tryz.func3.symm.trans hfn)).symm
      exact ⟨by kernel_rfl, fun j t ht => by
        have hp : Tryz.f3.params = #[9, 22] := by kernel_rfl
        rw [hp] at ht
        have hm : t ∈ [9, 22] := by simpa using Array.mem_of_getElem? ht
        have hall : ([9, 22].all fun u => !Tryz.prog.wantsStandIn u) = true := by kernel_rfl
        exact (show Tryz.prog.wantsStandIn t = false by simpa using List.all_eq_true.1 hall t hm)⟩)
    (by kernel_rfl)
end Go.Proofs.YtjlmofhokbnloaaGreatDoor
