/- For every track the law TrackLess returns true: a track that may be may be without its last rail, and with one lap. No condition; the listed variable is tied to the program's text. -/
import Derived.Test.YthnikhkcnapcaaaDoorTn
import Derived.Test.YthnikhkcnapcaaaDoorRows
import Derived.Test.YthnikhkcnapcaaaDoorTie
import Derived.Test.YthnikhkcnapcaaaDoorCards
import Derived.Handed
import Derived.JoinedOf
import Derived.ProofKit
import Derived.Lay
import Derived.LaidMore
import Derived.LaidLaws
import Derived.LaidHandle
import Derived.SevenTiedAt
namespace Go.Proofs.YthnikhkcnapcaaaDoor
open Go.Se Go.ChangeShapes Go.WideShapes Go.ChangeAt Go.RowKit
set_option maxRecDepth 100000
theorem trackLess_law (V : Val) : run v1 2 5 (argsSV tab.tt 8 0 [34] V) [] fun v _ _ => v = .bool true := by
  rw [track_args]; exact lessT_law _

theorem own : ownKnob Tryd.prog.godebug = none := by kernel_rfl
theorem laidOut : laidOutB Tryd.prog = true := by kernel_rfl
/-- A type's zero value. -/
noncomputable def zeroOf (t : TypeId) : Value := (((Tryd.prog.info? t).bind (·.zero)).getD (.bool false))
def laidX : List (String × DataW Unit) := Rows.trackLessRow.laid
theorem laid_rt : (Tryd.prog.cutTypes.find? (·.1 == "internal/reflectlite.rtype")).map (·.2) = some 102 := by kernel_rfl
theorem laid_oneRow : ((List.range 182).filter fun t => Tryd.prog.rowNamed t [101, 114, 114, 111, 114]) = [51] := by kernel_rfl
theorem laid_size : Tryd.prog.types.size = 182 := by kernel_rfl
theorem laid_et : Tryd.prog.globalNamed "errors.errorType" = some 0 := by kernel_rfl
theorem handle_of_laid {W : World} (h : laidMetH Tryd.prog laidX W) : W.cell? ⟨0, 0, none⟩ = some (.iface 102 (.agg #[.pointer (some ⟨3, 51, none⟩)])) := by
  have h' : laidMet Tryd.prog [] W ∧ handlesMet Tryd.prog laidX W := h
  obtain ⟨name, u, ty, e1, e2, e3, e4, e5⟩ := h'.2 _ (List.mem_singleton.2 rfl)
  have en : name = [101, 114, 114, 111, 114] := (Option.some.inj e1).symm
  subst en
  obtain rfl := Option.some.inj (laid_rt.symm.trans e2)
  have hm : ty ∈ (List.range 182).filter fun t => Tryd.prog.rowNamed t [101, 114, 114, 111, 114] := List.mem_filter.2 ⟨List.mem_range.2 (by rw [← laid_size]; exact e3), e4⟩
  rw [laid_oneRow] at hm
  obtain rfl := List.mem_singleton.1 hm
  have hh : typeHandle Tryd.prog 51 = .pointer (some ⟨3, 51, none⟩) := by kernel_rfl
  rw [hh] at e5
  simpa using World.var?_cell laid_et e5 0
theorem laid_inv {W : World} (h : laidMetH Tryd.prog laidX W) : ∀ g v, handleOf Tryd.prog = some (g, v) → W.cell? ⟨g, 0, none⟩ = some v := by
  intro g v hg
  rw [asHandle] at hg
  cases hg
  exact handle_of_laid h
noncomputable def laidWorld (os : Os) : World :=
  let w0 := World.holding Tryd.prog os ⟨#[], #[], []⟩
  { w0 with heap := w0.heap.modify 0 fun
      | .cells _ t frozen => .cells #[.iface 102 (.agg #[.pointer (some ⟨3, 51, none⟩)])] t frozen
      | o => o }
theorem trackLess_lifted (os : Os) (started : os.Started) (H : Type) (enc : TypeId × Value → H) :
    ReturnsInHanded {} Tryd.checked os 5 .any (fun w args => (Rows.trackLessSpec.pre enc Tryd.prog Tryd.f5 Rows.trackLessRow.domain false w args ∧ laidMetH Tryd.prog laidX w) ∧ sizedMet enc Tryd.prog Tryd.f5 (OpenSpec.ofChange Rows.trackLessSpec) false w args)
      (Rows.trackLessSpec.post enc Tryd.prog Tryd.f5 false true false false) := by
  refine returnsInHanded_of_change_and (C := Tryd.checked) (X := fun w _ => laidMetH Tryd.prog laidX w) (fun _ _ _ hh h => h.of_heap hh) own started (by kernel_rfl) Tryd.func5
    (ChangeSpec.witness_shaped (enc := enc) (C := Tryd.checked) (os := os) (X := fun w _ => laidMetH Tryd.prog laidX w) false (laidWorld os) #[zeroOf 34] 12 rfl (World.shaped_of_ZipB (by kernel_rfl) (by kernel_rfl)) (by kernel_rfl) (by kernel_rfl) (by kernel_rfl)
      (laidMetH_of_parts (laidMet_nil _ _) (by kernel_rfl))) ?_
  intro W base args ds gs before hval hW _ _ hL _
  exact law_post (C := Tryd.checked) laidOut tab.htt Tryd.func5 (by kernel_rfl) (d := 8) (by kernel_rfl) (by kernel_rfl) (tb := 4) (by kernel_rfl) (by kernel_rfl) rfl
    (fun ds h => by
      match ds, h with
      | [d1], _ => rfl)
    (Φ := fun V => (fun V => calls (tab.env v1 (fun _ => 0) (fun _ => false)) (keepW []) v1.dom 2 5 (argsSV tab.tt 8 0 Tryd.f5.params.toList V) []) V)
    (fun V => (fun V => calls_sat (env := tab.env v1 (fun _ => 0) (fun _ => false)) ⟨tab.htt, v1.ok⟩ tab.mixed (fun n => keepW_weaker n []) tab.hft 2 _ _ _) V)
    (fun V => trackLess_law V) W base args ds gs before (laid_inv hL) hval hW
theorem trackLess_holds : Rows.TrackLessSaid :=
  OpenClaim.holds_of_wide 5 Tryd.f5 rfl rfl rfl rfl rfl rfl rfl ⟨rfl, rfl, rfl, rfl, rfl⟩ rfl rfl rfl rfl rfl (by kernel_rfl) Tryd.func5 (by kernel_rfl)
    (of_decide_eq_true (by kernel_rfl)) (by unfold Func.isWrapper; first | (rw [if_pos (by decide +kernel)]; kernel_rfl) | (rw [if_neg (by decide +kernel)]; exact ⟨rfl, rfl⟩))
    (fun os started H enc _ => trackLess_lifted os started H enc)
theorem trackLess_card : Rows.TrackLessCardSaid :=
  Claim7.holds_tied_plain_at .later [] [.handle] true _ true trackLess_holds (fun _ h => by cases h) (by kernel_rfl) (fun _ h => by cases h) trackLess_row_tie rfl ⟨rfl, rfl⟩ (by kernel_rfl) rfl
    (fun f fn hf hfn => by
      obtain rfl : f = 5 := Option.some.inj ((show Tryd.prog.funcNamed "chicane/chicanelaw14.TrackLess" = some 5 by kernel_rfl).symm.trans hf) |>.symm
      obtain rfl : fn = Tryd.f5 := (Option.some.inj (Tryd.func5.symm.trans hfn)).symm
      exact ⟨by kernel_rfl, fun j t ht => by
        have hp : Tryd.f5.params = #[34] := by kernel_rfl
        rw [hp] at ht
        have hm : t ∈ [34] := by simpa using Array.mem_of_getElem? ht
        have hall : ([34].all fun u => !Tryd.prog.wantsStandIn u) = true := by kernel_rfl
        exact (show Tryd.prog.wantsStandIn t = false by simpa using List.all_eq_true.1 hall t hm)⟩)
    (by kernel_rfl)
end Go.Proofs.YthnikhkcnapcaaaDoor
