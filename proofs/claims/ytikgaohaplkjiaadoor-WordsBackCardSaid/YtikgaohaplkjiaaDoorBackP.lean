/- For every number the law WordsBack returns true: each number, and each whole number of up to 18 digits, comes back from its text. No condition; the listed tables are tied to the program's text. -/
import Derived.Test.YtikgaohaplkjiaaDoorSg
import Derived.Test.YtikgaohaplkjiaaDoorRows
import Derived.Test.YtikgaohaplkjiaaDoorTie
import Derived.Test.YtikgaohaplkjiaaDoorCards
import Derived.Handed
import Derived.JoinedOf
import Derived.ProofKit
import Derived.Lay
import Derived.LaidMore
import Derived.SevenTiedAt
namespace Go.Proofs.YtikgaohaplkjiaaDoor
open Go.Se Go.ChangeShapes Go.WideShapes Go.ChangeAt Go.RowKit
set_option maxRecDepth 100000
abbrev backId : FuncId := 4
theorem back_entry (n : Int) (K : KC) : run b3 2 backId [.int .i64 n] [] K =
    ∃ m : Int, ([SV.str (bytesOf (textL n))] = [SV.str (bytesOf (textL m))] ∧ ([] : List (Option SB)) = [] ∧ -9223372036854775808 ≤ m ∧ m ≤ 9223372036854775807) ∧
      Br (m != n) (K (.bool false) [] []) (Br (decide (n > 999999999999999999)) (K (.bool true) [] []) (Br (decide (n < -999999999999999999)) (K (.bool true) [] [])
        (∃ k : Int, ([SV.str (bytesOf (wholeL n))] = [SV.str (bytesOf (wholeL k))] ∧ ([] : List (Option SB)) = [] ∧ -999999999999999999 ≤ k ∧ k ≤ 999999999999999999) ∧
          Br (k == n) (K (.bool true) [] []) (K (.bool false) [] [])))) := by kernel_rfl
def backG (V : Val) : Bool := decide (-9223372036854775808 ≤ (V.sub 0).int []) && decide ((V.sub 0).int [] ≤ 9223372036854775807)
noncomputable def backPhi (V : Val) (K : KC) : Prop :=
  Br (backG V) (run b3 2 backId (argsSV tab.tt 8 0 Tryd.f4.params.toList V) [] K) (K (.bool true) [] [])
theorem args_eq (V : Val) : argsSV tab.tt 8 0 Tryd.f4.params.toList V = [.int .i64 ((V.sub 0).int [])] := by kernel_rfl
theorem back_sat (V : Val) : Sat Tryd.prog backId (argsSV tab.tt 8 0 Tryd.f4.params.toList V) [] (backPhi V) := by
  intro K h
  unfold backPhi at h
  rcases Br.elim h with ⟨_, h⟩ | ⟨hg, h⟩
  · exact calls_sat (env := tab.env b3 (fun _ => 0) (fun _ => false)) ⟨tab.htt, b3.ok⟩ tab.mixed (fun n => keepW_weaker n []) tab.hft 2 _ _ _ K h
  · refine ⟨_, _, _, h, callOK_of_ok fun h1 _ => ?_⟩
    rw [args_eq] at h1
    have h2 : -9223372036854775808 ≤ (V.sub 0).int [] ∧ (V.sub 0).int [] ≤ 9223372036854775807 := h1.1
    unfold backG at hg
    rw [decide_eq_true h2.1, decide_eq_true h2.2] at hg
    cases hg
theorem back_law (V : Val) : backPhi V fun v _ _ => v = .bool true := by
  unfold backPhi
  refine Br.of (fun hg => ?_) fun _ => rfl
  rw [args_eq, back_entry]
  unfold backG at hg
  simp only [Bool.and_eq_true, decide_eq_true_eq] at hg
  generalize (V.sub 0).int [] = n at *
  refine ⟨n, ⟨rfl, rfl, hg.1, hg.2⟩, Br.of (fun c => ?_) fun _ => Br.of (fun _ => rfl) fun c1 => Br.of (fun _ => rfl) fun c2 => ⟨n, ⟨rfl, rfl, ?_, ?_⟩, Br.of (fun _ => rfl) fun c => ?_⟩⟩
  · simp at c
  · have := of_decide_eq_false c2; omega
  · have := of_decide_eq_false c1; omega
  · simp at c

theorem own : ownKnob Tryd.prog.godebug = none := by kernel_rfl
theorem laidOut : laidOutB Tryd.prog = true := by kernel_rfl
def laidX : List (String × DataW Unit) := Rows.wordsBackRow.laid
theorem back_lifted (os : Os) (started : os.Started) (H : Type) (enc : TypeId × Value → H) :
    ReturnsInHanded {} Tryd.checked os backId .any (fun w args => (Rows.wordsBackSpec.pre enc Tryd.prog Tryd.f4 Rows.wordsBackRow.domain false w args ∧ laidMetH Tryd.prog laidX w) ∧ sizedMet enc Tryd.prog Tryd.f4 (OpenSpec.ofChange Rows.wordsBackSpec) false w args)
      (Rows.wordsBackSpec.post enc Tryd.prog Tryd.f4 false true false false) := by
  refine returnsInHanded_of_change_and (C := Tryd.checked) (X := fun w _ => laidMetH Tryd.prog laidX w) (fun _ _ _ hh h => h.of_heap hh) own started (by kernel_rfl) Tryd.func4
    (ChangeSpec.witness_shaped (enc := enc) (C := Tryd.checked) (os := os) (X := fun w _ => laidMetH Tryd.prog laidX w) false (World.laidAll Tryd.prog os laidX) #[.int .i64 0] 8 (World.laidAll_os _ _ _)
      (World.shaped_of_ZipB (by kernel_rfl) (by kernel_rfl)) (by kernel_rfl) (by kernel_rfl) (by kernel_rfl)
      (by rw [MakeChecks.laidMetH_plain _ _ _ (by kernel_rfl)]; exact laidMet_laidAll _ (by kernel_rfl) (by kernel_rfl))) ?_
  intro W base args ds gs before hval hW _ _ _ _
  exact law_post (C := Tryd.checked) laidOut tab.htt Tryd.func4 (by kernel_rfl) (d := 8) (by kernel_rfl) (by kernel_rfl) (tb := 4) (by kernel_rfl) (by kernel_rfl) rfl
    (fun ds h => by
      match ds, h with
      | [d1], _ => rfl)
    (Φ := fun V => backPhi V)
    (fun V => back_sat V)
    (fun V => back_law V) W base args ds gs before hval hW

theorem wordsBack_holds : Rows.WordsBackSaid :=
  OpenClaim.holds_of_wide backId Tryd.f4 rfl rfl rfl rfl rfl rfl rfl ⟨rfl, rfl, rfl, rfl, rfl⟩ rfl rfl rfl rfl rfl (by kernel_rfl) Tryd.func4 (by kernel_rfl)
    (of_decide_eq_true (by kernel_rfl)) (by unfold Func.isWrapper; first | (rw [if_pos (by decide +kernel)]; kernel_rfl) | (rw [if_neg (by decide +kernel)]; exact ⟨rfl, rfl⟩))
    (fun os started H enc _ => back_lifted os started H enc)
theorem wordsBack_card : Rows.WordsBackCardSaid :=
  Claim7.holds_tied_plain_at .later [] [.data, .pinned] true _ false wordsBack_holds (fun _ h => by cases h) (by kernel_rfl) (fun _ h => by cases h) wordsBack_row_tie rfl ⟨rfl, rfl⟩ (by kernel_rfl) rfl
    (fun f fn hf hfn => by
      obtain rfl : f = backId := Option.some.inj ((show Tryd.prog.funcNamed "chicane/chicanelaw36.WordsBack" = some backId by kernel_rfl).symm.trans hf) |>.symm
      obtain rfl : fn = Tryd.f4 := (Option.some.inj (Tryd.func4.symm.trans hfn)).symm
      exact ⟨by kernel_rfl, fun j t ht => by
        have hp : Tryd.f4.params = #[22] := by kernel_rfl
        rw [hp] at ht
        have hm : t ∈ [22] := by simpa using Array.mem_of_getElem? ht
        have hall : ([22].all fun u => !Tryd.prog.wantsStandIn u) = true := by kernel_rfl
        exact (show Tryd.prog.wantsStandIn t = false by simpa using List.all_eq_true.1 hall t hm)⟩)
    (by kernel_rfl)
end Go.Proofs.YtikgaohaplkjiaaDoor
