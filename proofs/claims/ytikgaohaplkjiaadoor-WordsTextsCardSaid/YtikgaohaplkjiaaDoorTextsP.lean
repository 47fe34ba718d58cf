/- For every number the law WordsTexts returns true: each number, and each whole number, has the text that the document's answer says. No condition; the listed tables are tied to the program's text. -/
import Derived.Test.YtikgaohaplkjiaaDoorSc
import Derived.Test.YtikgaohaplkjiaaDoorRows
import Derived.Test.YtikgaohaplkjiaaDoorTie
import Derived.Test.YtikgaohaplkjiaaDoorCards
import Derived.Handed
import Derived.JoinedOf
import Derived.ProofKit
import Derived.Lay
import Derived.LaidMore
import Derived.SevenTiedAt
namespace Go.Proofs.YtikgaohaplkjiaaDoor
open Go.Se Go.ChangeShapes Go.WideShapes Go.ChangeAt Go.RowKit
set_option maxRecDepth 100000
abbrev textsId : FuncId := 3
theorem texts_entry (n : Int) (K : KC) : run t4 2 textsId [.int .i64 n] [] K =
    Br (bytesOf (textL n) == bytesOf (textL n)) (Br (bytesOf (wholeL n) == bytesOf (wholeL n)) (K (.bool true) [] []) (K (.bool false) [] [])) (K (.bool false) [] []) := by kernel_rfl
theorem ba_self (s : ByteArray) : (s == s) = true := by rw [ba_beq, beq_self_eq_true]
theorem texts_law (V : Val) : run t4 2 textsId (argsSV tab.tt 8 0 [22] V) [] fun v _ _ => v = .bool true := by
  show run t4 2 textsId [.int .i64 ((V.sub 0).int [])] [] _
  rw [texts_entry, ba_self, ba_self]
  exact rfl

theorem own : ownKnob Tryd.prog.godebug = none := by kernel_rfl
theorem laidOut : laidOutB Tryd.prog = true := by kernel_rfl
def laidX : List (String × DataW Unit) := Rows.wordsTextsRow.laid
theorem texts_lifted (os : Os) (started : os.Started) (H : Type) (enc : TypeId × Value → H) :
    ReturnsInHanded {} Tryd.checked os textsId .any (fun w args => (Rows.wordsTextsSpec.pre enc Tryd.prog Tryd.f3 Rows.wordsTextsRow.domain false w args ∧ laidMetH Tryd.prog laidX w) ∧ sizedMet enc Tryd.prog Tryd.f3 (OpenSpec.ofChange Rows.wordsTextsSpec) false w args)
      (Rows.wordsTextsSpec.post enc Tryd.prog Tryd.f3 false true false false) := by
  refine returnsInHanded_of_change_and (C := Tryd.checked) (X := fun w _ => laidMetH Tryd.prog laidX w) (fun _ _ _ hh h => h.of_heap hh) own started (by kernel_rfl) Tryd.func3
    (ChangeSpec.witness_shaped (enc := enc) (C := Tryd.checked) (os := os) (X := fun w _ => laidMetH Tryd.prog laidX w) false (World.laidAll Tryd.prog os laidX) #[.int .i64 0] 8 (World.laidAll_os _ _ _)
      (World.shaped_of_ZipB (by kernel_rfl) (by kernel_rfl)) (by kernel_rfl) (by kernel_rfl) (by kernel_rfl)
      (by rw [MakeChecks.laidMetH_plain _ _ _ (by kernel_rfl)]; exact laidMet_laidAll _ (by kernel_rfl) (by kernel_rfl))) ?_
  intro W base args ds gs before hval hW _ _ _ _
  exact law_post (C := Tryd.checked) laidOut tab.htt Tryd.func3 (by kernel_rfl) (d := 8) (by kernel_rfl) (by kernel_rfl) (tb := 4) (by kernel_rfl) (by kernel_rfl) rfl
    (fun ds h => by
      match ds, h with
      | [d1], _ => rfl)
    (Φ := fun V => calls (tab.env t4 (fun _ => 0) (fun _ => false)) (keepW []) t4.dom 2 textsId (argsSV tab.tt 8 0 Tryd.f3.params.toList V) [])
    (fun V => calls_sat (env := tab.env t4 (fun _ => 0) (fun _ => false)) ⟨tab.htt, t4.ok⟩ tab.mixed (fun n => keepW_weaker n []) tab.hft 2 _ _ _)
    (fun V => texts_law V) W base args ds gs before hval hW

theorem wordsTexts_holds : Rows.WordsTextsSaid :=
  OpenClaim.holds_of_wide textsId Tryd.f3 rfl rfl rfl rfl rfl rfl rfl ⟨rfl, rfl, rfl, rfl, rfl⟩ rfl rfl rfl rfl rfl (by kernel_rfl) Tryd.func3 (by kernel_rfl)
    (of_decide_eq_true (by kernel_rfl)) (by unfold Func.isWrapper; first | (rw [if_pos (by decide +kernel)]; kernel_rfl) | (rw [if_neg (by decide +kernel)]; exact ⟨rfl, rfl⟩))
    (fun os started H enc _ => texts_lifted os started H enc)
theorem wordsTexts_card : Rows.WordsTextsCardSaid :=
  Claim7.holds_tied_plain_at .later [] [.data, .pinned] true _ false wordsTexts_holds (fun _ h => by cases h) (by kernel_rfl) (fun _ h => by cases h) wordsTexts_row_tie rfl ⟨rfl, rfl⟩ (by kernel_rfl) rfl
    (fun f fn hf hfn => by
      obtain rfl : f = textsId := Option.some.inj ((show Tryd.prog.funcNamed "chicane/chicanelaw36.WordsTexts" = some textsId by kernel_rfl).symm.trans hf) |>.symm
      obtain rfl : fn = Tryd.f3 := (Option.some.inj (Tryd.func3.symm.trans hfn)).symm
      exact ⟨by kernel_rfl, fun j t ht => by
        have hp : Tryd.f3.params = #[22] := by kernel_rfl
        rw [hp] at ht
        have hm : t ∈ [22] := by simpa using Array.mem_of_getElem? ht
        have hall : ([22].all fun u => !Tryd.prog.wantsStandIn u) = true := by kernel_rfl
        exact (show Tryd.prog.wantsStandIn t = false by simpa using List.all_eq_true.1 hall t hm)⟩)
    (by kernel_rfl)
end Go.Proofs.YtikgaohaplkjiaaDoor
