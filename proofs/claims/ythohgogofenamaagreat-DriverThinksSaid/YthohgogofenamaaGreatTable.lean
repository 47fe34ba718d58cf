import Derived.Test.YthohgogofenamaaGreatRoot
import Derived.Test.YthohgogofenamaaGreatSeTrig
namespace Go.Proofs.YthohgogofenamaaGreat
open Go.Se
set_option maxRecDepth 100000
theorem trigMul_ok (a b : Int) : CallOK Tryz.prog 96 [.int .i64 a, .int .i64 b] [] (.int .i64 (trigMul a b)) [] [] :=
  run_ok k8 2 fun _ _ K hK => by
    have e : ∀ K, run k8 2 96 [.int .i64 a, .int .i64 b] [] K = K (.int .i64 (divV (wv (a * b / 18446744073709551616) (a * b % 18446744073709551616)) 1000000000000000000)) [] [] := fun K => by kernel_rfl
    rw [e, wv_wide]
    exact hK
def cTrigMul : List SV → List (Option SB) → Out
  | [.int .i64 a, .int .i64 b], [] => some (.int .i64 (trigMul a b), [], [])
  | _, _ => none
noncomputable def k9 : Know Tryz.prog := k8.add 96 (one cTrigMul) (one_sat fun xs σ v σ' d h => by
    unfold cTrigMul at h; split at h <;> cases h; exact trigMul_ok _ _)
theorem small_ok : CallOK Tryz.prog 90 [] [] (.agg [.int .i64 999698818696204220, .int .i64 24541228522912287]) [] [] :=
  runU_ok 25 k9 2 fun _ _ K hK => by
    have e : ∀ K, runU 25 k9 2 90 [] [] K = K (.agg [.int .i64 999698818696204220, .int .i64 24541228522912287]) [] [] := fun K => by kernel_rfl
    rw [e]; exact hK
def cSmall : List SV → List (Option SB) → Out
  | [], [] => some (.agg [.int .i64 999698818696204220, .int .i64 24541228522912287], [], [])
  | _, _ => none
noncomputable def k10 : Know Tryz.prog := k9.add 90 (one cSmall) (one_sat fun xs σ v σ' d h => by
    unfold cSmall at h; split at h <;> cases h; exact small_ok)
theorem table_run : ∀ n : Nat, n ≤ 64 → ∀ K, runU 8 k10 3 84 [.int .i64 (n : Int)] [] K = K (.int .i64 (sinTab.getD n 0)) [] []
  | 0, _, K => by kernel_rfl
  | 1, _, K => by kernel_rfl
  | 2, _, K => by kernel_rfl
  | 3, _, K => by kernel_rfl
  | 4, _, K => by kernel_rfl
  | 5, _, K => by kernel_rfl
  | 6, _, K => by kernel_rfl
  | 7, _, K => by kernel_rfl
  | 8, _, K => by kernel_rfl
  | 9, _, K => by kernel_rfl
  | 10, _, K => by kernel_rfl
  | 11, _, K => by kernel_rfl
  | 12, _, K => by kernel_rfl
  | 13, _, K => by kernel_rfl
  | 14, _, K => by kernel_rfl
  | 15, _, K => by kernel_rfl
  | 16, _, K => by kernel_rfl
  | 17, _, K => by kernel_rfl
  | 18, _, K => by kernel_rfl
  | 19, _, K => by kernel_rfl
  | 20, _, K => by kernel_rfl
  | 21, _, K => by kernel_rfl
  | 22, _, K => by kernel_rfl
  | 23, _, K => by kernel_rfl
  | 24, _, K => by kernel_rfl
  | 25, _, K => by kernel_rfl
  | 26, _, K => by kernel_rfl
  | 27, _, K => by kernel_rfl
  | 28, _, K => by kernel_rfl
  | 29, _, K => by kernel_rfl
  | 30, _, K => by kernel_rfl
  | 31, _, K => by kernel_rfl
  | 32, _, K => by kernel_rfl
  | 33, _, K => by kernel_rfl
  | 34, _, K => by kernel_rfl
  | 35, _, K => by kernel_rfl
  | 36, _, K => by kernel_rfl
  | 37, _, K => by kernel_rfl
  | 38, _, K => by kernel_rfl
  | 39, _, K => by kernel_rfl
  | 40, _, K => by kernel_rfl
  | 41, _, K => by kernel_rfl
  | 42, _, K => by kernel_rfl
  | 43, _, K => by kernel_rfl
  | 44, _, K => by kernel_rfl
  | 45, _, K => by kernel_rfl
  | 46, _, K => by kernel_rfl
  | 47, _, K => by kernel_rfl
  | 48, _, K => by kernel_rfl
  | 49, _, K => by kernel_rfl
  | 50, _, K => by kernel_rfl
  | 51, _, K => by kernel_rfl
  | 52, _, K => by kernel_rfl
  | 53, _, K => by kernel_rfl
  | 54, _, K => by kernel_rfl
  | 55, _, K => by kernel_rfl
  | 56, _, K => by kernel_rfl
  | 57, _, K => by kernel_rfl
  | 58, _, K => by kernel_rfl
  | 59, _, K => by kernel_rfl
  | 60, _, K => by kernel_rfl
  | 61, _, K => by kernel_rfl
  | 62, _, K => by kernel_rfl
  | 63, _, K => by kernel_rfl
  | 64, _, K => by kernel_rfl
  | n + 65, h, _ => absurd h (by omega)
def cTable : List SV → List (Option SB) → Option (Bool × SV × List (Option SB) × List Nat)
  | [.int .i64 k], [] => some (decide (0 ≤ k) && decide (k ≤ 64), .int .i64 (tabV k), [], [])
  | _, _ => none
theorem table_ok (k : Int) (h : (decide (0 ≤ k) && decide (k ≤ 64)) = true) : CallOK Tryz.prog 84 [.int .i64 k] [] (.int .i64 (tabV k)) [] [] := by
  simp only [Bool.and_eq_true, decide_eq_true_eq] at h
  obtain ⟨n, rfl⟩ := Int.eq_ofNat_of_zero_le h.1
  refine runU_ok 8 k10 3 fun _ _ K hK => ?_
  rw [table_run n (by omega)]
  unfold tabV at hK
  rw [decide_eq_false (show ¬ (n : Int) < 0 by omega), decide_eq_false (show ¬ (n : Int) > 64 by omega)] at hK
  exact hK
noncomputable def k11 : Know Tryz.prog := k10.add 84 (oneIf cTable) (oneIf_sat fun xs σ v σ' d h => by
    unfold cTable at h; split at h
    · rename_i k
      simp only [Option.some.injEq, Prod.mk.injEq] at h
      obtain ⟨h1, rfl, rfl, rfl⟩ := h
      exact table_ok _ h1
    · cases h)
end Go.Proofs.YthohgogofenamaaGreat
