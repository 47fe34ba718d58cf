import Derived.Test.YthohgogofenamaaGreatRe
import Derived.Test.YthohgogofenamaaGreatSeTrig
namespace Go.Proofs.YthohgogofenamaaGreat
open Go.Se
set_option maxRecDepth 100000
theorem rtable_run : ∀ n : Nat, n ≤ 64 → ∀ K, runU 13 q6 3 94 [.int .i64 (n : Int)] [] K = K (.int .i64 (sinTab.getD n 0)) [] []
  | 0, _, K => by kernel_rfl
  | 1, _, K => by kernel_rfl
  | 2, _, K => by kernel_rfl
  | 3, _, K => by kernel_rfl
  | 4, _, K => by kernel_rfl
  | 5, _, K => by kernel_rfl
  | 6, _, K => by kernel_rfl
  | 7, _, K => by kernel_rfl
  | 8, _, K => by kernel_rfl
  | 9, _, K => by kernel_rfl
  | 10, _, K => by kernel_rfl
  | 11, _, K => by kernel_rfl
  | 12, _, K => by kernel_rfl
  | 13, _, K => by kernel_rfl
  | 14, _, K => by kernel_rfl
  | 15, _, K => by kernel_rfl
  | 16, _, K => by kernel_rfl
  | 17, _, K => by kernel_rfl
  | 18, _, K => by kernel_rfl
  | 19, _, K => by kernel_rfl
  | 20, _, K => by kernel_rfl
  | 21, _, K => by kernel_rfl
  | 22, _, K => by kernel_rfl
  | 23, _, K => by kernel_rfl
  | 24, _, K => by kernel_rfl
  | 25, _, K => by kernel_rfl
  | 26, _, K => by kernel_rfl
  | 27, _, K => by kernel_rfl
  | 28, _, K => by kernel_rfl
  | 29, _, K => by kernel_rfl
  | 30, _, K => by kernel_rfl
  | 31, _, K => by kernel_rfl
  | 32, _, K => by kernel_rfl
  | 33, _, K => by kernel_rfl
  | 34, _, K => by kernel_rfl
  | 35, _, K => by kernel_rfl
  | 36, _, K => by kernel_rfl
  | 37, _, K => by kernel_rfl
  | 38, _, K => by kernel_rfl
  | 39, _, K => by kernel_rfl
  | 40, _, K => by kernel_rfl
  | 41, _, K => by kernel_rfl
  | 42, _, K => by kernel_rfl
  | 43, _, K => by kernel_rfl
  | 44, _, K => by kernel_rfl
  | 45, _, K => by kernel_rfl
  | 46, _, K => by kernel_rfl
  | 47, _, K => by kernel_rfl
  | 48, _, K => by kernel_rfl
  | 49, _, K => by kernel_rfl
  | 50, _, K => by kernel_rfl
  | 51, _, K => by kernel_rfl
  | 52, _, K => by kernel_rfl
  | 53, _, K => by kernel_rfl
  | 54, _, K => by kernel_rfl
  | 55, _, K => by kernel_rfl
  | 56, _, K => by kernel_rfl
  | 57, _, K => by kernel_rfl
  | 58, _, K => by kernel_rfl
  | 59, _, K => by kernel_rfl
  | 60, _, K => by kernel_rfl
  | 61, _, K => by kernel_rfl
  | 62, _, K => by kernel_rfl
  | 63, _, K => by kernel_rfl
  | 64, _, K => by kernel_rfl
  | n + 65, h, _ => absurd h (by omega)
def cTableR : List SV → List (Option SB) → OutIf
  | [.int .i64 k], [] => some (decide (0 ≤ k) && decide (k ≤ 64), .int .i64 (tabV k), [], [])
  | _, _ => none
theorem rtable_ok (k : Int) (h : (decide (0 ≤ k) && decide (k ≤ 64)) = true) : CallOK Tryz.prog 94 [.int .i64 k] [] (.int .i64 (tabV k)) [] [] := by
  simp only [Bool.and_eq_true, decide_eq_true_eq] at h
  obtain ⟨n, rfl⟩ := Int.eq_ofNat_of_zero_le h.1
  refine runU_ok 13 q6 3 fun _ _ K hK => ?_
  rw [rtable_run n (by omega)]
  unfold tabV at hK
  rw [decide_eq_false (show ¬ (n : Int) < 0 by omega), decide_eq_false (show ¬ (n : Int) > 64 by omega)] at hK
  exact hK
noncomputable def q7 : Know Tryz.prog := q6.add 94 (oneIf cTableR) (oneIf_sat fun xs σ v σ' d h => by
    unfold cTableR at h; split at h
    · rename_i k
      simp only [Option.some.injEq, Prod.mk.injEq] at h
      obtain ⟨h1, rfl, rfl, rfl⟩ := h
      exact rtable_ok _ h1
    · cases h)
end Go.Proofs.YthohgogofenamaaGreat
