import Derived.Test.YtheedafdaolooaaTable
namespace Go.Proofs.Ytheedafdaolooaa
open Go.Se
set_option maxRecDepth 100000
theorem sin_entry (t : Int) (K : KC) : run k11 2 51 [.int .u32 t] [] K = sinW t K := by kernel_rfl
theorem sin_ok (t : Int) : CallOK Try.prog 51 [.int .u32 t] [] (.int .i64 (sinF t)) [] [] :=
  run_ok k11 2 fun ⟨ht, _⟩ _ K hK => by
    rw [sin_entry]
    exact sinW_law ht.1 ht.2 hK
def cSin : List SV → List (Option SB) → Out
  | [.int .u32 t], [] => some (.int .i64 (sinF t), [], [])
  | _, _ => none
noncomputable def k12 : Know Try.prog := k11.add 51 (one cSin) (one_sat fun xs σ v σ' d h => by
    unfold cSin at h; split at h <;> cases h; exact sin_ok _)
theorem cos_ok (t : Int) : CallOK Try.prog 50 [.int .u32 t] [] (.int .i64 (cosF t)) [] [] :=
  run_ok k12 2 fun _ _ K hK => by
    have e : ∀ K, run k12 2 50 [.int .u32 t] [] K = K (.int .i64 (sinF (IntKind.u32.wrap (t + 1073741824)))) [] [] := fun K => by kernel_rfl
    rw [e, wu32]
    exact hK
def cCos : List SV → List (Option SB) → Out
  | [.int .u32 t], [] => some (.int .i64 (cosF t), [], [])
  | _, _ => none
noncomputable def k13 : Know Try.prog := ((k12.add 50 (one cCos) (one_sat fun xs σ v σ' d h => by
    unfold cCos at h; split at h <;> cases h; exact cos_ok _)))
end Go.Proofs.Ytheedafdaolooaa
