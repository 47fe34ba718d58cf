import Derived.Test.YtheedafdaolooaaWidf
namespace Go.Proofs.Ytheedafdaolooaa
open Go.Se
set_option maxRecDepth 100000

theorem neg_ok (a b : Int) : CallOK Try.prog 37 [.agg [.int .i64 a, .int .u64 b]] []
    (.tup [wideSV (bif in128 (-wv a b) then -wv a b else 0), .bool (in128 (-wv a b))]) [] [] :=
  run_ok k1 2 fun ⟨⟨ha, hb, _⟩, _⟩ _ K hK => by
    have ha' : -9223372036854775808 ≤ a ∧ a ≤ 9223372036854775807 := ha
    have hb' : 0 ≤ b ∧ b ≤ 18446744073709551615 := hb
    have e : ∀ K, run k1 2 37 [.agg [.int .i64 a, .int .u64 b]] [] K =
      If (decide ((0 : Int) ≤ bif decide (0 < b + 0) then 1 else 0) && decide ((bif decide (0 < b + 0) then 1 else 0) ≤ (1 : Int)))
        (Br (decide (a < 0))
          (Br (decide (IntKind.i64.wrap ((0 - IntKind.u64.wrap a - bif decide (0 < b + 0) then 1 else 0) % 18446744073709551616) < 0))
            (K (.tup [.agg [.int .i64 0, .int .u64 0], .bool false]) [] [])
            (K (.tup [.agg [.int .i64 (IntKind.i64.wrap ((0 - IntKind.u64.wrap a - bif decide (0 < b + 0) then 1 else 0) % 18446744073709551616)), .int .u64 ((0 - b - 0) % 18446744073709551616)], .bool true]) [] []))
          (K (.tup [.agg [.int .i64 (IntKind.i64.wrap ((0 - IntKind.u64.wrap a - bif decide (0 < b + 0) then 1 else 0) % 18446744073709551616)), .int .u64 ((0 - b - 0) % 18446744073709551616)], .bool true]) [] [])) := fun K => by kernel_rfl
    rw [e]
    simp only [wu64, wi64]
    have hin : in128 (-wv a b) = true ↔ -170141183460469231731687303715884105728 ≤ -wv a b ∧ -wv a b < 170141183460469231731687303715884105728 := by
      unfold in128; simp only [Bool.and_eq_true, decide_eq_true_eq]
    unfold wv at *
    obtain ⟨c, hc, hcb⟩ : ∃ c : Int, (bif decide (0 < b + 0) then 1 else 0) = c ∧ ((b = 0 ∧ c = 0) ∨ (0 < b ∧ c = 1)) := by
      by_cases h : 0 < b + 0
      · exact ⟨1, by rw [decide_eq_true h]; rfl, .inr ⟨by omega, rfl⟩⟩
      · exact ⟨0, by rw [decide_eq_false h]; rfl, .inl ⟨by omega, rfl⟩⟩
    rw [hc]
    refine If.mk (by simp only [Bool.and_eq_true, decide_eq_true_eq]; omega) ?_
    have hfin : in128 (-(a * 18446744073709551616 + b)) = true → K (.tup [.agg [.int .i64 (((0 - a % 18446744073709551616 - c) % 18446744073709551616 + 9223372036854775808) % 18446744073709551616 - 9223372036854775808), .int .u64 ((0 - b - 0) % 18446744073709551616)], .bool true]) [] [] := by
      intro hyes
      have h3 := hin.1 hyes
      rw [hyes] at hK
      refine fin hK ?_
      rw [wide_eq (x := -(a * 18446744073709551616 + b)) (by omega) (by omega) (by omega)]; rfl
    refine Br.of (fun h1 => Br.of (fun h2 => ?_) fun h2 => ?_) fun h1 => ?_
    · have hno : in128 (-(a * 18446744073709551616 + b)) = false := by
        cases hh : in128 (-(a * 18446744073709551616 + b)) with
        | false => rfl
        | true =>
          exfalso
          have h3 := hin.1 hh
          simp only [decide_eq_true_eq] at h1 h2
          omega
      rw [hno] at hK
      exact hK
    · simp only [decide_eq_true_eq, decide_eq_false_iff_not] at h1 h2
      exact hfin (hin.2 (by omega))
    · simp only [decide_eq_false_iff_not] at h1
      exact hfin (hin.2 (by omega))

theorem sized_ok (a b : Int) : CallOK Try.prog 61 [.agg [.int .i64 a, .int .u64 b]] []
    (.tup [.agg [.int .u64 (absI (wv a b) / 18446744073709551616), .int .u64 (absI (wv a b) % 18446744073709551616)], .bool (decide (wv a b < 0))]) [] [] :=
  run_ok k1 2 fun ⟨⟨ha, hb, _⟩, _⟩ _ K hK => by
    have ha' : -9223372036854775808 ≤ a ∧ a ≤ 9223372036854775807 := ha
    have hb' : 0 ≤ b ∧ b ≤ 18446744073709551615 := hb
    have e : ∀ K, run k1 2 61 [.agg [.int .i64 a, .int .u64 b]] [] K =
      Br (decide (a ≥ 0))
        (K (.tup [.agg [.int .u64 (IntKind.u64.wrap a), .int .u64 b], .bool false]) [] [])
        (If (decide ((0 : Int) ≤ bif decide (0 < b + 0) then 1 else 0) && decide ((bif decide (0 < b + 0) then 1 else 0) ≤ (1 : Int)))
          (K (.tup [.agg [.int .u64 ((0 - IntKind.u64.wrap a - bif decide (0 < b + 0) then 1 else 0) % 18446744073709551616), .int .u64 ((0 - b - 0) % 18446744073709551616)], .bool true]) [] [])) := fun K => by kernel_rfl
    rw [e]
    simp only [wu64]
    obtain ⟨c, hc, hcb⟩ : ∃ c : Int, (bif decide (0 < b + 0) then 1 else 0) = c ∧ ((b = 0 ∧ c = 0) ∨ (0 < b ∧ c = 1)) := by
      by_cases h : 0 < b + 0
      · exact ⟨1, by rw [decide_eq_true h]; rfl, .inr ⟨by omega, rfl⟩⟩
      · exact ⟨0, by rw [decide_eq_false h]; rfl, .inl ⟨by omega, rfl⟩⟩
    rw [hc]
    refine Br.of (fun h1 => ?_) fun h1 => If.mk (by simp only [Bool.and_eq_true, decide_eq_true_eq]; omega) ?_
    · simp only [decide_eq_true_eq] at h1
      have hn : decide (wv a b < 0) = false := decide_eq_false (by unfold wv; omega)
      unfold absI at hK
      rw [hn] at hK
      simp only [cond_false] at hK
      unfold wv at hK
      refine fin hK ?_
      rw [show a % 18446744073709551616 = (a * 18446744073709551616 + b) / 18446744073709551616 by omega, show b = (a * 18446744073709551616 + b) % 18446744073709551616 by omega]
      congr 6 <;> omega
    · simp only [decide_eq_false_iff_not] at h1
      have hn : decide (wv a b < 0) = true := decide_eq_true (by unfold wv; omega)
      unfold absI at hK
      rw [hn] at hK
      simp only [cond_true] at hK
      unfold wv at hK
      refine fin hK ?_
      rw [show (0 - a % 18446744073709551616 - c) % 18446744073709551616 = (-(a * 18446744073709551616 + b)) / 18446744073709551616 by omega, show (0 - b - 0) % 18446744073709551616 = (-(a * 18446744073709551616 + b)) % 18446744073709551616 by omega]

theorem below_ok (a b c d : Int) : CallOK Try.prog 58 [.agg [.int .u64 a, .int .u64 b], .agg [.int .u64 c, .int .u64 d]] []
    (.bool (decide (wv a b < wv c d))) [] [] :=
  run_ok k1 2 fun ⟨⟨ha, hb, _⟩, ⟨hc, hd, _⟩, _⟩ _ K hK => by
    have ha' : 0 ≤ a ∧ a ≤ 18446744073709551615 := ha
    have hb' : 0 ≤ b ∧ b ≤ 18446744073709551615 := hb
    have hc' : 0 ≤ c ∧ c ≤ 18446744073709551615 := hc
    have hd' : 0 ≤ d ∧ d ≤ 18446744073709551615 := hd
    have e : ∀ K, run k1 2 58 [.agg [.int .u64 a, .int .u64 b], .agg [.int .u64 c, .int .u64 d]] [] K =
      Br (decide (a < c)) (K (.bool true) [] []) (Br (a == c) (K (.bool (decide (b < d))) [] []) (K (.bool false) [] [])) := fun K => by kernel_rfl
    rw [e]
    unfold wv at hK
    refine Br.of (fun h1 => ?_) fun h1 => Br.of (fun h2 => ?_) fun h2 => ?_ <;> simp only [decide_eq_true_eq, decide_eq_false_iff_not, beq_iff_eq, beq_eq_false_iff_ne, ne_eq] at h1 <;> (try simp only [beq_iff_eq, beq_eq_false_iff_ne, ne_eq] at h2) <;> refine fin hK (congrArg SV.bool ?_)
    · exact (decide_eq_true (by omega)).symm
    · exact decide_eq_decide.2 (by omega)
    · exact (decide_eq_false (by omega)).symm

theorem compareI_ok (a b : Int) : CallOK Try.prog 46 [.int .i64 a, .int .i64 b] [] (.int .i64 (cmpI a b)) [] [] :=
  run_ok k1 3 fun _ _ K hK => by
    have e : ∀ K, run k1 3 46 [.int .i64 a, .int .i64 b] [] K =
      Br (a != a) (Br (b != b) (K (.int .i64 0) [] []) (K (.int .i64 (-1)) [] [])) (Br (b != b) (K (.int .i64 1) [] [])
        (Br (decide (a < b)) (K (.int .i64 (-1)) [] []) (Br (decide (a > b)) (K (.int .i64 1) [] []) (K (.int .i64 0) [] [])))) := fun K => by kernel_rfl
    rw [e]
    unfold cmpI at hK
    refine Br.of (fun h => by simp at h) fun _ => Br.of (fun h => by simp at h) fun _ => Br.of (fun h => ?_) fun h => Br.of (fun h2 => ?_) fun h2 => ?_
    · rw [h] at hK; exact hK
    · rw [h, show decide (b < a) = true from h2] at hK; exact hK
    · rw [h, show decide (b < a) = false from h2] at hK; exact hK
theorem compareU_ok (a b : Int) : CallOK Try.prog 47 [.int .u64 a, .int .u64 b] [] (.int .i64 (cmpI a b)) [] [] :=
  run_ok k1 3 fun _ _ K hK => by
    have e : ∀ K, run k1 3 47 [.int .u64 a, .int .u64 b] [] K =
      Br (a != a) (Br (b != b) (K (.int .i64 0) [] []) (K (.int .i64 (-1)) [] [])) (Br (b != b) (K (.int .i64 1) [] [])
        (Br (decide (a < b)) (K (.int .i64 (-1)) [] []) (Br (decide (a > b)) (K (.int .i64 1) [] []) (K (.int .i64 0) [] [])))) := fun K => by kernel_rfl
    rw [e]
    unfold cmpI at hK
    refine Br.of (fun h => by simp at h) fun _ => Br.of (fun h => by simp at h) fun _ => Br.of (fun h => ?_) fun h => Br.of (fun h2 => ?_) fun h2 => ?_
    · rw [h] at hK; exact hK
    · rw [h, show decide (b < a) = true from h2] at hK; exact hK
    · rw [h, show decide (b < a) = false from h2] at hK; exact hK

noncomputable def k2 : Know Try.prog := (k1.add 46 (one (cCompare .i64)) (one_sat fun xs σ v σ' d h => by
    unfold cCompare at h; split at h
    · rename_i j a l b
      cases hj : decide (j = .i64) <;> cases hl : decide (l = .i64) <;> rw [hj, hl] at h <;> simp at h
      obtain ⟨rfl, rfl, rfl⟩ := h
      rw [of_decide_eq_true hj, of_decide_eq_true hl]; exact compareI_ok _ _
    · cases h)).add 47 (one (cCompare .u64)) (one_sat fun xs σ v σ' d h => by
    unfold cCompare at h; split at h
    · rename_i j a l b
      cases hj : decide (j = .u64) <;> cases hl : decide (l = .u64) <;> rw [hj, hl] at h <;> simp at h
      obtain ⟨rfl, rfl, rfl⟩ := h
      rw [of_decide_eq_true hj, of_decide_eq_true hl]; exact compareU_ok _ _
    · cases h)
end Go.Proofs.Ytheedafdaolooaa
