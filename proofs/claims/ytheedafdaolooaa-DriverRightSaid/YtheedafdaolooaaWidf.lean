import Derived.Test.YtheedafdaolooaaWide
namespace Go.Proofs.Ytheedafdaolooaa
open Go.Se
set_option maxRecDepth 100000

noncomputable def k1 : Know Try.prog := (k0.add 44 (one cMul64) (one_sat fun xs σ v σ' d h => by
    unfold cMul64 at h; split at h <;> cases h; exact mul64_ok _ _)).add 38 (one cOf) (one_sat fun xs σ v σ' d h => by
    unfold cOf at h; split at h <;> cases h; exact of_ok _)

theorem mul_ok (a b : Int) : CallOK Try.prog 26 [.int .i64 a, .int .i64 b] [] (wideSV (a * b)) [] [] :=
  run_ok k1 2 fun ⟨ha, hb, _⟩ _ K hK => by
    have ha' : -9223372036854775808 ≤ a ∧ a ≤ 9223372036854775807 := ha
    have hb' : -9223372036854775808 ≤ b ∧ b ≤ 9223372036854775807 := hb
    have e : ∀ K, run k1 2 26 [.int .i64 a, .int .i64 b] [] K =
      Br (decide (a < 0))
        (Br (decide (b < 0))
          (K (.agg [.int .i64 (IntKind.i64.wrap (IntKind.u64.wrap (IntKind.u64.wrap (IntKind.u64.wrap a * IntKind.u64.wrap b / 18446744073709551616 - IntKind.u64.wrap b) - IntKind.u64.wrap a))), .int .u64 (IntKind.u64.wrap a * IntKind.u64.wrap b % 18446744073709551616)]) [] [])
          (K (.agg [.int .i64 (IntKind.i64.wrap (IntKind.u64.wrap (IntKind.u64.wrap a * IntKind.u64.wrap b / 18446744073709551616 - IntKind.u64.wrap b))), .int .u64 (IntKind.u64.wrap a * IntKind.u64.wrap b % 18446744073709551616)]) [] []))
        (Br (decide (b < 0))
          (K (.agg [.int .i64 (IntKind.i64.wrap (IntKind.u64.wrap (IntKind.u64.wrap a * IntKind.u64.wrap b / 18446744073709551616 - IntKind.u64.wrap a))), .int .u64 (IntKind.u64.wrap a * IntKind.u64.wrap b % 18446744073709551616)]) [] [])
          (K (.agg [.int .i64 (IntKind.i64.wrap (IntKind.u64.wrap a * IntKind.u64.wrap b / 18446744073709551616)), .int .u64 (IntKind.u64.wrap a * IntKind.u64.wrap b % 18446744073709551616)]) [] [])) := fun K => by kernel_rfl
    rw [e]
    simp only [wu64, wi64]
    have hp1 : (a + 18446744073709551616) * (b + 18446744073709551616) = a * b + (a + b) * 18446744073709551616 + 340282366920938463463374607431768211456 := by grind
    have hp2 : (a + 18446744073709551616) * b = a * b + b * 18446744073709551616 := by grind
    have hp3 : a * (b + 18446744073709551616) = a * b + a * 18446744073709551616 := by grind
    have hr : -85070591730234615865843651857942052864 ≤ a * b ∧ a * b ≤ 85070591730234615865843651857942052864 := mul_range ha'.1 ha'.2 hb'.1 hb'.2
    have hn : ∀ x : Int, -9223372036854775808 ≤ x → x ≤ 9223372036854775807 → x < 0 → x % 18446744073709551616 = x + 18446744073709551616 := fun x _ _ _ => by omega
    have hq : ∀ x : Int, -9223372036854775808 ≤ x → x ≤ 9223372036854775807 → ¬ x < 0 → x % 18446744073709551616 = x := fun x _ _ _ => by omega
    refine Br.of (fun h1 => Br.of (fun h2 => ?_) fun h2 => ?_) fun h1 => Br.of (fun h2 => ?_) fun h2 => ?_
    · have h1' := of_decide_eq_true h1
      have h2' := of_decide_eq_true h2
      rw [hn a ha'.1 ha'.2 h1', hn b hb'.1 hb'.2 h2', hp1]
      exact fin hK (wide_eq (by omega) (by omega) (by omega))
    · have h1' := of_decide_eq_true h1
      have h2' := of_decide_eq_false h2
      rw [hn a ha'.1 ha'.2 h1', hq b hb'.1 hb'.2 h2', hp2]
      exact fin hK (wide_eq (by omega) (by omega) (by omega))
    · have h1' := of_decide_eq_false h1
      have h2' := of_decide_eq_true h2
      rw [hq a ha'.1 ha'.2 h1', hn b hb'.1 hb'.2 h2', hp3]
      exact fin hK (wide_eq (by omega) (by omega) (by omega))
    · have h1' := of_decide_eq_false h1
      have h2' := of_decide_eq_false h2
      rw [hq a ha'.1 ha'.2 h1', hq b hb'.1 hb'.2 h2']
      exact fin hK (wide_eq (by omega) (by omega) (by omega))

theorem add_ok (a b c d : Int) : CallOK Try.prog 25 [.agg [.int .i64 a, .int .u64 b], .agg [.int .i64 c, .int .u64 d]] []
    (.tup [wideSV (bif in128 (wv a b + wv c d) then wv a b + wv c d else 0), .bool (in128 (wv a b + wv c d))]) [] [] :=
  run_ok k1 2 fun ⟨⟨ha, hb, _⟩, ⟨hc, hd, _⟩, _⟩ _ K hK => by
    have ha' : -9223372036854775808 ≤ a ∧ a ≤ 9223372036854775807 := ha
    have hb' : 0 ≤ b ∧ b ≤ 18446744073709551615 := hb
    have hc' : -9223372036854775808 ≤ c ∧ c ≤ 9223372036854775807 := hc
    have hd' : 0 ≤ d ∧ d ≤ 18446744073709551615 := hd
    have e : ∀ K, run k1 2 25 [.agg [.int .i64 a, .int .u64 b], .agg [.int .i64 c, .int .u64 d]] [] K =
      If (decide (0 ≤ (b + d + 0) / 18446744073709551616) && decide ((b + d + 0) / 18446744073709551616 ≤ 1))
        (Br (decide (a < 0) == decide (c < 0))
          (Br (!(decide (IntKind.i64.wrap ((IntKind.u64.wrap a + IntKind.u64.wrap c + (b + d + 0) / 18446744073709551616) % 18446744073709551616) < 0) == decide (a < 0)))
            (K (.tup [.agg [.int .i64 0, .int .u64 0], .bool false]) [] [])
            (K (.tup [.agg [.int .i64 (IntKind.i64.wrap ((IntKind.u64.wrap a + IntKind.u64.wrap c + (b + d + 0) / 18446744073709551616) % 18446744073709551616)), .int .u64 ((b + d + 0) % 18446744073709551616)], .bool true]) [] []))
          (K (.tup [.agg [.int .i64 (IntKind.i64.wrap ((IntKind.u64.wrap a + IntKind.u64.wrap c + (b + d + 0) / 18446744073709551616) % 18446744073709551616)), .int .u64 ((b + d + 0) % 18446744073709551616)], .bool true]) [] [])) := fun K => by kernel_rfl
    rw [e]
    have hcar : (decide (0 ≤ (b + d + 0) / 18446744073709551616) && decide ((b + d + 0) / 18446744073709551616 ≤ 1)) = true := by
      simp only [Bool.and_eq_true, decide_eq_true_eq]; omega
    refine If.mk hcar ?_
    simp only [wu64, wi64]
    have hin : in128 (wv a b + wv c d) = true ↔ -170141183460469231731687303715884105728 ≤ wv a b + wv c d ∧ wv a b + wv c d < 170141183460469231731687303715884105728 := by
      unfold in128; simp only [Bool.and_eq_true, decide_eq_true_eq]
    unfold wv at *
    refine Br.of (fun h1 => Br.of (fun h2 => ?_) fun h2 => ?_) fun h1 => ?_
    · have hno : in128 (a * 18446744073709551616 + b + (c * 18446744073709551616 + d)) = false := by
        cases hh : in128 (a * 18446744073709551616 + b + (c * 18446744073709551616 + d)) with
        | false => rfl
        | true =>
          exfalso
          have h3 := hin.1 hh
          simp only [beq_iff_eq, decide_eq_decide] at h1
          simp only [Bool.not_eq_true', beq_eq_false_iff_ne, ne_eq, decide_eq_decide] at h2
          omega
      rw [hno] at hK
      exact hK
    · have hyes : in128 (a * 18446744073709551616 + b + (c * 18446744073709551616 + d)) = true := by
        refine hin.2 ?_
        simp only [beq_iff_eq, decide_eq_decide] at h1
        simp only [Bool.not_eq_false', beq_iff_eq, decide_eq_decide] at h2
        omega
      have h3 := hin.1 hyes
      rw [hyes] at hK
      refine fin hK ?_
      rw [wide_eq (x := a * 18446744073709551616 + b + (c * 18446744073709551616 + d)) (by omega) (by omega) (by omega)]; rfl
    · have hyes : in128 (a * 18446744073709551616 + b + (c * 18446744073709551616 + d)) = true := by
        refine hin.2 ?_
        simp only [beq_eq_false_iff_ne, ne_eq, decide_eq_decide] at h1
        omega
      have h3 := hin.1 hyes
      rw [hyes] at hK
      refine fin hK ?_
      rw [wide_eq (x := a * 18446744073709551616 + b + (c * 18446744073709551616 + d)) (by omega) (by omega) (by omega)]; rfl
end Go.Proofs.Ytheedafdaolooaa
