import Derived.Test.YtjlmofhokbnloaaDoorRa
namespace Go.Proofs.YtjlmofhokbnloaaDoor
open Go.Se
set_option maxRecDepth 100000
theorem mulN_entry (a b : Int) (K : KC) : runU 5 q2 2 63 [.int .i64 a, .int .i64 b] [] K =
    mulD (absI a % 4294967296) (IntKind.u64.wrap ((absI a).tdiv 4294967296)) (absI b % 4294967296) (IntKind.u64.wrap ((absI b).tdiv 4294967296)) fun p0 p1 p2 p3 =>
      Br (dv p0 p1 p2 p3 == 0) (K (.agg [.bool false, .int .u64 p0, .int .u64 p1, .int .u64 p2, .int .u64 p3]) [] []) (K (.agg [.bool (!(decide (a < 0) == decide (b < 0))), .int .u64 p0, .int .u64 p1, .int .u64 p2, .int .u64 p3]) [] []) := by kernel_rfl
theorem mulN_ok (a b : Int) : CallOK Tryd.prog 63 [.int .i64 a, .int .i64 b] [] (nSV (a * b)) [] [] :=
  runU_ok 5 q2 2 fun ⟨ha, hb, _⟩ _ K hK => by
    have ha' : -9223372036854775808 ≤ a ∧ a ≤ 9223372036854775807 := ha
    have hb' : -9223372036854775808 ≤ b ∧ b ≤ 9223372036854775807 := hb
    have hA := absI_nonneg a
    have hB := absI_nonneg b
    have hA' : absI a < 9223372036854775809 := absI_lt (by omega) (by omega)
    have hB' : absI b < 9223372036854775809 := absI_lt (by omega) (by omega)
    rw [mulN_entry, Int.tdiv_eq_ediv_of_nonneg hA, Int.tdiv_eq_ediv_of_nonneg hB, wu64, wu64, show absI a / 4294967296 % 18446744073709551616 = absI a / 4294967296 by omega, show absI b / 4294967296 % 18446744073709551616 = absI b / 4294967296 by omega]
    refine mulD_law hA (by omega) hB (by omega) fun p0 p1 p2 p3 h => ?_
    have hl := h.list
    rw [absI_mul] at h hl
    have he := h.eq
    rw [he]
    have hn0 := absI_nonneg (a * b)
    refine Br.of (fun c => ?_) fun c => ?_ <;> simp only [beq_iff_eq, beq_eq_false_iff_ne, ne_eq] at c <;> refine fin hK ?_ <;> unfold nSV <;> rw [hl]
    · have : decide (a * b < 0) = false := by
        cases hd : decide (a * b < 0) with
        | false => rfl
        | true =>
          have := of_decide_eq_true hd
          unfold absI at c; rw [hd] at c; simp only [cond_true] at c; omega
      rw [this]
    · have h0 : a * b ≠ 0 := fun h => c (by rw [h]; rfl)
      have ha0 : a ≠ 0 := fun h => h0 (by rw [h, Int.zero_mul])
      have hb0 : b ≠ 0 := fun h => h0 (by rw [h, Int.mul_zero])
      congr 3
      rw [Bool.eq_iff_iff]
      simp only [Bool.not_eq_true', beq_eq_false_iff_ne, ne_eq, decide_eq_decide, decide_eq_true_eq]
      rcases Int.lt_or_lt_of_ne ha0 with h1 | h1 <;> rcases Int.lt_or_lt_of_ne hb0 with h2 | h2
      · have := Int.mul_pos_of_neg_of_neg h1 h2; omega
      · have := Int.mul_neg_of_neg_of_pos h1 h2; omega
      · have := Int.mul_neg_of_pos_of_neg h1 h2; omega
      · have := Int.mul_pos h1 h2; omega
noncomputable def q3 : Know Tryd.prog := (q2).add 63 (one cMulN) (one_sat fun xs σ v σ' d h => by
    unfold cMulN at h; split at h <;> cases h; first | exact mulN_ok | exact mulN_ok _ | exact mulN_ok _ _ | exact mulN_ok _ _ _ | exact mulN_ok _ _ _ _ | exact mulN_ok _ _ _ _ _ | exact mulN_ok _ _ _ _ _ _ | exact mulN_ok _ _ _ _ _ _ _ | exact mulN_ok _ _ _ _ _ _ _ _ | exact mulN_ok _ _ _ _ _ _ _ _ _ | exact mulN_ok _ _ _ _ _ _ _ _ _ _ | exact mulN_ok _ _ _ _ _ _ _ _ _ _ _)
end Go.Proofs.YtjlmofhokbnloaaDoor
