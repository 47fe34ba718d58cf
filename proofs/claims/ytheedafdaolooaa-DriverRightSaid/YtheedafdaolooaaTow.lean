import Derived.Test.YtheedafdaolooaaFirst
namespace Go.Proofs.Ytheedafdaolooaa
open Go.Se
set_option maxRecDepth 100000
theorem tow_entry (x y : Int) (K : KC) : runU 5 k14 2 16 [.int .i64 x, .int .i64 y] [] K = twP 5 (capF x) (capF y) 0 K := by kernel_rfl
theorem tow_ok (x y : Int) : CallOK Try.prog 16 [.int .i64 x, .int .i64 y] [] (.int .u32 (towV x y)) [] [] :=
  runU_ok 5 k14 2 fun ⟨hx, hy, _⟩ _ K hK => by
    have hx' : -9223372036854775808 ≤ x ∧ x ≤ 9223372036854775807 := hx
    have hy' : -9223372036854775808 ≤ y ∧ y ≤ 9223372036854775807 := hy
    rw [tow_entry]
    have h1 : -9223372036854775807 ≤ capF x ∧ capF x ≤ 9223372036854775807 := by unfold capF; split <;> omega
    have h2 : -9223372036854775807 ≤ capF y ∧ capF y ≤ 9223372036854775807 := by unfold capF; split <;> omega
    refine tw_law 5 _ _ 0 ?_ h1.1 h1.2 h2.1 h2.2 hK
    unfold rankT
    (repeat' split) <;> omega
def cTow : List SV → List (Option SB) → Out
  | [.int .i64 x, .int .i64 y], [] => some (.int .u32 (towV x y), [], [])
  | _, _ => none
noncomputable def k15 : Know Try.prog := k14.add 16 (one cTow) (one_sat fun xs σ v σ' d h => by
    unfold cTow at h; split at h <;> cases h; exact tow_ok _ _)
end Go.Proofs.Ytheedafdaolooaa
