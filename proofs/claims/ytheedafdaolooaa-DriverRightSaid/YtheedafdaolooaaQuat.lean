import Derived.Test.YtheedafdaolooaaAwake
import Derived.Test.YtheedafdaolooaaSeTrig
namespace Go.Proofs.Ytheedafdaolooaa
open Go.Se
set_option maxRecDepth 100000
noncomputable def k18 : Know Try.prog := withFx (k17.add nearId cNear near_sat)
theorem zero_lt : ∀ {x : Option SB} (p : Nat), p ∈ [0] → p < [x].length := fun p hp => by simp at hp; subst hp; exact Nat.zero_lt_one
theorem mat_ok (o : Bool) (w x y z : Int) : CallOK Try.prog 14 [.ptr 0 0, .agg [.int .i64 w, .int .i64 x, .int .i64 y, .int .i64 z]] [some (.cells mT [.bool o])]
    (.agg (matV w x y z)) [some (.cells mT [.bool (matO w x y z o)])] [0] :=
  runD_ok 0 k18 6 zero_lt fun _ _ K hK => by
    have e : ∀ K, runU 0 k18 6 14 [.ptr 0 0, .agg [.int .i64 w, .int .i64 x, .int .i64 y, .int .i64 z]] [some (.cells mT [.bool o])] K = K (.agg (matV w x y z)) [some (.cells mT [.bool (matO w x y z o)])] [0] := fun K => by kernel_rfl
    rw [e]; exact hK _ fun _ h => h
theorem dot_ok (o : Bool) (a b c x y z : Int) : CallOK Try.prog 35 [.ptr 0 0, .agg [.int .i64 a, .int .i64 b, .int .i64 c], .agg [.int .i64 x, .int .i64 y, .int .i64 z]] [some (.cells mT [.bool o])]
    (.int .i64 (dotV a b c x y z)) [some (.cells mT [.bool (dotO a b c x y z o)])] [0] :=
  runD_ok 0 k18 6 zero_lt fun _ _ K hK => by
    have e : ∀ K, runU 0 k18 6 35 [.ptr 0 0, .agg [.int .i64 a, .int .i64 b, .int .i64 c], .agg [.int .i64 x, .int .i64 y, .int .i64 z]] [some (.cells mT [.bool o])] K = K (.int .i64 (dotV a b c x y z)) [some (.cells mT [.bool (dotO a b c x y z o)])] [0] := fun K => by kernel_rfl
    rw [e]; exact hK _ fun _ h => h
def cMat : List SV → List (Option SB) → Out
  | [.ptr 0 0, .agg [.int .i64 w, .int .i64 x, .int .i64 y, .int .i64 z]], [some (.cells 58 [.bool o])] => some (.agg (matV w x y z), [some (.cells mT [.bool (matO w x y z o)])], [0])
  | _, _ => none
def cDot : List SV → List (Option SB) → Out
  | [.ptr 0 0, .agg [.int .i64 a, .int .i64 b, .int .i64 c], .agg [.int .i64 x, .int .i64 y, .int .i64 z]], [some (.cells 58 [.bool o])] => some (.int .i64 (dotV a b c x y z), [some (.cells mT [.bool (dotO a b c x y z o)])], [0])
  | _, _ => none
noncomputable def k19 : Know Try.prog := (k18.add 14 (one cMat) (one_sat fun xs σ v σ' d h => by
    unfold cMat at h; split at h <;> cases h; exact mat_ok _ _ _ _ _)).add 35 (one cDot) (one_sat fun xs σ v σ' d h => by
    unfold cDot at h; split at h <;> cases h; exact dot_ok _ _ _ _ _ _ _)
end Go.Proofs.Ytheedafdaolooaa
