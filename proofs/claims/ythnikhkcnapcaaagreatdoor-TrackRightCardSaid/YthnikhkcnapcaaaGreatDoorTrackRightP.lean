/- For every track the law TrackRight returns true: the program says the same as the document's answer of what is wrong first, and where. No condition; the listed variable is tied to the program's text. -/
import Derived.Test.YthnikhkcnapcaaaGreatDoorTm
import Derived.Test.YthnikhkcnapcaaaGreatDoorRows
import Derived.Test.YthnikhkcnapcaaaGreatDoorTie
import Derived.Test.YthnikhkcnapcaaaGreatDoorCards
import Derived.Handed
import Derived.JoinedOf
import Derived.ProofKit
import Derived.Lay
import Derived.LaidMore
import Derived.LaidLaws
import Derived.LaidHandle
import Derived.SevenTiedAt
namespace Go.Proofs.YthnikhkcnapcaaaGreatDoor
open Go.Se Go.ChangeShapes Go.WideShapes Go.ChangeAt Go.RowKit
set_option maxRecDepth 100000
theorem trackRight_law (V : Val) : run u1 2 3 (argsSV tab.tt 8 0 [34] V) [] fun v _ _ => v = .bool true := by
  rw [track_args, tright_nf]
  generalize trkV (V.sub 0) = t
  refine ⟨trkS_of t, Br.of (fun _ => rfl) fun c => ⟨trkS_of t, ?_, trkS_of t, ?_, ?_⟩⟩
  · exact few_small (by rw [Bool.not_eq_false'] at c; exact c)
  · exact few_small (by rw [Bool.not_eq_false'] at c; exact c)
  · rw [beq_self_eq_true, beq_self_eq_true]; rfl

theorem own : ownKnob Tryz.prog.godebug = none := by kernel_rfl
theorem laidOut : laidOutB Tryz.prog = true := by kernel_rfl
/-- A type's zero value. -/
noncomputable def zeroOf (t : TypeId) : Value := (((Tryz.prog.info? t).bind (·.zero)).getD (.bool false))
def laidX : List (String × DataW Unit) := Rows.trackRightRow.laid
theorem laid_rt : (Tryz.prog.cutTypes.find? (·.1 == "internal/reflectlite.rtype")).map (·.2) = some 92 := by kernel_rfl
theorem laid_oneRow : ((List.range 209).filter fun t => Tryz.prog.rowNamed t [101, 114, 114, 111, 114]) = [43] := by kernel_rfl
theorem laid_size : Tryz.prog.types.size = 209 := by kernel_rfl
theorem laid_et : Tryz.prog.globalNamed "errors.errorType" = some 0 := by kernel_rfl
theorem handle_of_laid {W : World} (h : laidMetH Tryz.prog laidX W) : W.cell? ⟨0, 0, none⟩ = some (.iface 92 (.agg #[.pointer (some ⟨3, 43, none⟩)])) := by
  have h' : laidMet Tryz.prog [] W ∧ handlesMet Tryz.prog laidX W := h
  obtain ⟨name, u, ty, e1, e2, e3, e4, e5⟩ := h'.2 _ (List.mem_singleton.2 rfl)
  have en : name = [101, 114, 114, 111, 114] := (Option.some.inj e1).symm
  subst en
  obtain rfl := Option.some.inj (laid_rt.symm.trans e2)
  have hm : ty ∈ (List.range 209).filter fun t => Tryz.prog.rowNamed t [101, 114, 114, 111, 114] := List.mem_filter.2 ⟨List.mem_range.2 (by rw [← laid_size]; exact e3), e4⟩
  rw [laid_oneRow] at hm
  obtain rfl := List.mem_singleton.1 hm
  have hh : typeHandle Tryz.prog 43 = .pointer (some ⟨3, 43, none⟩) := by kernel_rfl
  rw [hh] at e5
  simpa using World.var?_cell laid_et e5 0
theorem laid_inv {W : World} (h : laidMetH Tryz.prog laidX W) : ∀ g v, handleOf Tryz.prog = some (g, v) → W.cell? ⟨g, 0, none⟩ = some v := by
  intro g v hg
  rw [asHandle] at hg
  cases hg
  exact handle_of_laid h
noncomputable def laidWorld (os : Os) : World :=
  let w0 := World.holding Tryz.prog os ⟨#[], #[], []⟩
  { w0 with heap := w0.heap.modify 0 fun
      | .cells _ t frozen => .cells #[.iface 92 (.agg #[.pointer (some ⟨3, 43, none⟩)])] t frozen
      | o => o }
theorem trackRight_lifted (os : Os) (started : os.Started) (H : Type) (enc : TypeId × Value → H) :
    ReturnsInHanded {} Tryz.checked os 3 .any (fun w args => (Rows.trackRightSpec.pre enc Tryz.prog Tryz.f3 Rows.trackRightRow.domain false w args ∧ laidMetH Tryz.prog laidX w) ∧ sizedMet enc Tryz.prog Tryz.f3 (OpenSpec.ofChange Rows.trackRightSpec) false w args)
      (Rows.trackRightSpec.post enc Tryz.prog Tryz.f3 false true false false) := by
  refine returnsInHanded_of_change_and (C := Tryz.checked) (X := fun w _ => laidMetH Tryz.prog laidX w) (fun _ _ _ hh h => h.of_heap hh) own started (by kernel_rfl) Tryz.func3
    (ChangeSpec.witness_shaped (enc := enc) (C := Tryz.checked) (os := os) (X := fun w _ => laidMetH Tryz.prog laidX w) false (laidWorld os) #[zeroOf 34] 12 rfl (World.shaped_of_ZipB (by kernel_rfl) (by kernel_rfl)) (by kernel_rfl) (by kernel_rfl) (by kernel_rfl)
      (laidMetH_of_parts (laidMet_nil _ _) (by kernel_rfl))) ?_
  intro W base args ds gs before hval hW _ _ hL _
  exact law_post (C := Tryz.checked) laidOut tab.htt Tryz.func3 (by kernel_rfl) (d := 8) (by kernel_rfl) (by kernel_rfl) (tb := 4) (by kernel_rfl) (by kernel_rfl) rfl
    (fun ds h => by
      match ds, h with
      | [d1], _ => rfl)
    (Φ := fun V => (fun V => calls (tab.env u1 (fun _ => 0) (fun _ => false)) (keepW []) u1.dom 2 3 (argsSV tab.tt 8 0 Tryz.f3.params.toList V) []) V)
    (fun V => (fun V => calls_sat (env := tab.env u1 (fun _ => 0) (fun _ => false)) ⟨tab.htt, u1.ok⟩ tab.mixed (fun n => keepW_weaker n []) tab.hft 2 _ _ _) V)
    (fun V => trackRight_law V) W base args ds gs before (laid_inv hL) hval hW
theorem trackRight_holds : Rows.TrackRightSaid :=
  OpenClaim.holds_of_wide 3 Tryz.f3 rfl rfl rfl rfl rfl rfl rfl ⟨rfl, rfl, rfl, rfl, rfl⟩ rfl rfl rfl rfl rfl (by kernel_rfl) Tryz.func3 (by kernel_rfl)
    (of_decide_eq_true (by kernel_rfl)) (by unfold Func.isWrapper; first | (rw [if_pos (by decide +kernel)]; kernel_rfl) | (rw [if_neg (by decide +kernel)]; exact ⟨rfl, rfl⟩))
    (fun os started H enc _ => trackRight_lifted os started H enc)
theorem trackRight_card : Rows.TrackRightCardSaid :=
  Claim7.holds_tied_plain_at .later [] [.handle] true _ true trackRight_holds (fun _ h => by cases h) (by kernel_rfl) (fun _ h => by cases h) trackRight_row_tie rfl ⟨rfl, rfl⟩ (by kernel_rfl) rfl
    (fun f fn hf hfn => by
      obtain rfl : f = 3 := Option.some.inj ((show Tryz.prog.funcNamed "chicane/chicanelaw14.TrackRight" = some 3 by kernel_rfl).symm.trans hf) |>.symm
      obtain rfl : fn = Tryz.f3 := (Option.some.inj (Tryz.func3.symm.trans hfn)).symm
      exact ⟨by kernel_rfl, fun j t ht => by
        have hp : Tryz.f3.params = #[34] := by kernel_rfl
        rw [hp] at ht
        have hm : t ∈ [34] := by simpa using Array.mem_of_getElem? ht
        have hall : ([34].all fun u => !Tryz.prog.wantsStandIn u) = true := by kernel_rfl
        exact (show Tryz.prog.wantsStandIn t = false by simpa using List.all_eq_true.1 hall t hm)⟩)
    (by kernel_rfl)
end Go.Proofs.YthnikhkcnapcaaaGreatDoor
