/- For every row of bytes the law TrackioDecode returns true: the track that the program reads in bytes, or what is wrong first and where, is the document's. No condition; the listed variable is tied to the program's text. -/
import Derived.Test.YtbedljhbakdghaaGreatDoorVl
import Derived.Test.YtbedljhbakdghaaGreatDoorRows
import Derived.Test.YtbedljhbakdghaaGreatDoorTie
import Derived.Test.YtbedljhbakdghaaGreatDoorCards
import Derived.Handed
import Derived.JoinedOf
import Derived.ProofKit
import Derived.Lay
import Derived.LaidMore
import Derived.LaidLaws
import Derived.LaidHandle
import Derived.SevenTiedAt
namespace Go.Proofs.YtbedljhbakdghaaGreatDoor
open Go.Se Go.ChangeShapes Go.WideShapes Go.ChangeAt Go.RowKit
set_option maxRecDepth 100000
def trackioDecode_phi (_ : Val) (K : KC) : Prop := K (.bool true) [] []
theorem trackioDecode_sat (V : Val) : Sat Tryz.prog 4 (argsSV tab.tt 8 0 [36] V) [] (trackioDecode_phi V) := fun K hK => ⟨_, _, _, hK, by rw [bytes_args]; exact callOK_bytes (fun B => ldec_ok B) _ _⟩

theorem own : ownKnob Tryz.prog.godebug = none := by kernel_rfl
theorem laidOut : laidOutB Tryz.prog = true := by kernel_rfl
/-- A type's zero value. -/
noncomputable def zeroOf (t : TypeId) : Value := (((Tryz.prog.info? t).bind (·.zero)).getD (.bool false))
def laidX : List (String × DataW Unit) := Rows.trackioDecodeRow.laid
theorem laid_rt : (Tryz.prog.cutTypes.find? (·.1 == "internal/reflectlite.rtype")).map (·.2) = some 170 := by kernel_rfl
theorem laid_oneRow : ((List.range 286).filter fun t => Tryz.prog.rowNamed t [101, 114, 114, 111, 114]) = [109] := by kernel_rfl
theorem laid_size : Tryz.prog.types.size = 286 := by kernel_rfl
theorem laid_et : Tryz.prog.globalNamed "errors.errorType" = some 0 := by kernel_rfl
theorem handle_of_laid {W : World} (h : laidMetH Tryz.prog laidX W) : W.cell? ⟨0, 0, none⟩ = some (.iface 170 (.agg #[.pointer (some ⟨3, 109, none⟩)])) := by
  have h' : laidMet Tryz.prog [] W ∧ handlesMet Tryz.prog laidX W := h
  obtain ⟨name, u, ty, e1, e2, e3, e4, e5⟩ := h'.2 _ (List.mem_singleton.2 rfl)
  have en : name = [101, 114, 114, 111, 114] := (Option.some.inj e1).symm
  subst en
  obtain rfl := Option.some.inj (laid_rt.symm.trans e2)
  have hm : ty ∈ (List.range 286).filter fun t => Tryz.prog.rowNamed t [101, 114, 114, 111, 114] := List.mem_filter.2 ⟨List.mem_range.2 (by rw [← laid_size]; exact e3), e4⟩
  rw [laid_oneRow] at hm
  obtain rfl := List.mem_singleton.1 hm
  have hh : typeHandle Tryz.prog 109 = .pointer (some ⟨3, 109, none⟩) := by kernel_rfl
  rw [hh] at e5
  simpa using World.var?_cell laid_et e5 0
theorem laid_inv {W : World} (h : laidMetH Tryz.prog laidX W) : ∀ g v, handleOf Tryz.prog = some (g, v) → W.cell? ⟨g, 0, none⟩ = some v := by
  intro g v hg
  rw [asHandle] at hg
  cases hg
  exact handle_of_laid h
noncomputable def laidWorld (os : Os) : World :=
  let w0 := World.holding Tryz.prog os ⟨#[], #[], []⟩
  { w0 with heap := w0.heap.modify 0 fun
      | .cells _ t frozen => .cells #[.iface 170 (.agg #[.pointer (some ⟨3, 109, none⟩)])] t frozen
      | o => o }
theorem trackioDecode_lifted (os : Os) (started : os.Started) (H : Type) (enc : TypeId × Value → H) :
    ReturnsInHanded {} Tryz.checked os 4 .any (fun w args => (Rows.trackioDecodeSpec.pre enc Tryz.prog Tryz.f4 Rows.trackioDecodeRow.domain false w args ∧ laidMetH Tryz.prog laidX w) ∧ sizedMet enc Tryz.prog Tryz.f4 (OpenSpec.ofChange Rows.trackioDecodeSpec) false w args)
      (Rows.trackioDecodeSpec.post enc Tryz.prog Tryz.f4 false true false false) := by
  refine returnsInHanded_of_change_and (C := Tryz.checked) (X := fun w _ => laidMetH Tryz.prog laidX w) (fun _ _ _ hh h => h.of_heap hh) own started (by kernel_rfl) Tryz.func4
    (ChangeSpec.witness_shaped (enc := enc) (C := Tryz.checked) (os := os) (X := fun w _ => laidMetH Tryz.prog laidX w) false (laidWorld os) #[zeroOf 36] 12 rfl (World.shaped_of_ZipB (by kernel_rfl) (by kernel_rfl)) (by kernel_rfl) (by kernel_rfl) (by kernel_rfl)
      (laidMetH_of_parts (laidMet_nil _ _) (by kernel_rfl))) ?_
  intro W base args ds gs before hval hW _ _ hL _
  exact law_post (C := Tryz.checked) laidOut tab.htt Tryz.func4 (by kernel_rfl) (d := 8) (by kernel_rfl) (by kernel_rfl) (tb := 4) (by kernel_rfl) (by kernel_rfl) rfl
    (fun ds h => by
      match ds, h with
      | [d1], _ => rfl)
    (Φ := trackioDecode_phi)
    trackioDecode_sat
    (fun _ => rfl) W base args ds gs before (laid_inv hL) hval hW
theorem trackioDecode_holds : Rows.TrackioDecodeSaid :=
  OpenClaim.holds_of_wide 4 Tryz.f4 rfl rfl rfl rfl rfl rfl rfl ⟨rfl, rfl, rfl, rfl, rfl⟩ rfl rfl rfl rfl rfl (by kernel_rfl) Tryz.func4 (by kernel_rfl)
    (of_decide_eq_true (by kernel_rfl)) (by unfold Func.isWrapper; first | (rw [if_pos (by decide +kernel)]; kernel_rfl) | (rw [if_neg (by decide +kernel)]; exact ⟨rfl, rfl⟩))
    (fun os started H enc _ => trackioDecode_lifted os started H enc)
theorem trackioDecode_card : Rows.TrackioDecodeCardSaid :=
  Claim7.holds_tied_plain_at .later [] [.handle] true _ true trackioDecode_holds (fun _ h => by cases h) (by kernel_rfl) (fun _ h => by cases h) trackioDecode_row_tie rfl ⟨rfl, rfl⟩ (by kernel_rfl) rfl
    (fun f fn hf hfn => by
      obtain rfl : f = 4 := Option.some.inj ((show Tryz.prog.funcNamed "chicane/chicanelaw15.TrackioDecode" = some 4 by kernel_rfl).symm.trans hf) |>.symm
      obtain rfl : fn = Tryz.f4 := (Option.some.inj (Tryz.func4.symm.trans hfn)).symm
      exact ⟨by kernel_rfl, fun j t ht => by
        have hp : Tryz.f4.params = #[36] := by kernel_rfl
        rw [hp] at ht
        have hm : t ∈ [36] := by simpa using Array.mem_of_getElem? ht
        have hall : ([36].all fun u => !Tryz.prog.wantsStandIn u) = true := by kernel_rfl
        exact (show Tryz.prog.wantsStandIn t = false by simpa using List.all_eq_true.1 hall t hm)⟩)
    (by kernel_rfl)
end Go.Proofs.YtbedljhbakdghaaGreatDoor
