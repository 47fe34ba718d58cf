import Derived.Test.YtheedafdaolooaaBits
import Derived.Test.YtheedafdaolooaaSeRoot
namespace Go.Proofs.Ytheedafdaolooaa
open Go.Se
set_option maxRecDepth 100000
theorem div64_entry (hi lo y : Int) (K : KC) : runU 2 k6 3 62 [.int .u64 hi, .int .u64 lo, .int .u64 y] [] K =
    Br (y == 0) False (Br (decide (y ≤ hi)) False (Br (hi == 0)
      (If (y != 0) (If (y != 0) (K (.tup [.int .u64 (IntKind.u64.wrap (lo.tdiv y)), .int .u64 (lo.tmod y)]) [] [])))
      (divP hi lo y K))) := by kernel_rfl
theorem div64_ok (hi lo y : Int) (hlt : hi < y) : CallOK Try.prog 62 [.int .u64 hi, .int .u64 lo, .int .u64 y] [] (.tup [.int .u64 ((hi * 18446744073709551616 + lo) / y), .int .u64 ((hi * 18446744073709551616 + lo) % y)]) [] [] :=
  runD_ok 2 k6 3 (fun _ h => nomatch h) fun ⟨hh, hl, hy, _⟩ _ K hK => by
    have hh' : 0 ≤ hi ∧ hi ≤ 18446744073709551615 := hh
    have hl' : 0 ≤ lo ∧ lo ≤ 18446744073709551615 := hl
    have hy' : 0 ≤ y ∧ y ≤ 18446744073709551615 := hy
    have hK := hK [] fun _ h => nomatch h
    rw [div64_entry]
    refine Br.of (fun c => ?_) fun _ => Br.of (fun c => ?_) fun _ => Br.of (fun c => ?_) fun _ => div_law hh'.1 hl'.1 (by omega) hlt (by omega) hK
    · have := eq_of_beq c; omega
    · have := of_decide_eq_true c; omega
    · have := eq_of_beq c
      subst this
      have hy0 : (y != 0) = true := by rw [bne_iff_ne]; omega
      refine If.mk hy0 (If.mk hy0 ?_)
      have hq0 : 0 ≤ lo / y := Int.ediv_nonneg hl'.1 hy'.1
      have hq1 : lo / y ≤ lo := Int.ediv_le_self _ hl'.1
      rw [Int.tdiv_eq_ediv_of_nonneg hl'.1, Int.tmod_eq_emod_of_nonneg hl'.1, wu64, show lo / y % 18446744073709551616 = lo / y by omega]
      rw [Int.zero_mul, Int.zero_add] at hK
      exact hK
def cDiv64 : List SV → List (Option SB) → Option (Bool × SV × List (Option SB) × List Nat)
  | [.int .u64 hi, .int .u64 lo, .int .u64 y], [] => some (decide (hi < y), .tup [.int .u64 ((hi * 18446744073709551616 + lo) / y), .int .u64 ((hi * 18446744073709551616 + lo) % y)], [], [])
  | _, _ => none
noncomputable def k7 : Know Try.prog := k6.add 62 (oneIf cDiv64) (oneIf_sat fun xs σ v σ' d h => by
    unfold cDiv64 at h; split at h
    · rename_i hi lo y
      simp only [Option.some.injEq, Prod.mk.injEq] at h
      obtain ⟨h1, rfl, rfl, rfl⟩ := h
      exact div64_ok _ _ _ (of_decide_eq_true h1)
    · cases h)

theorem div_entry (a b c : Int) (K : KC) : runU 0 k7 2 57 [.agg [.int .i64 a, .int .u64 b], .int .i64 c] [] K = dvP (wv a b) c K := by kernel_rfl
theorem div_ok (a b c : Int) : CallOK Try.prog 57 [.agg [.int .i64 a, .int .u64 b], .int .i64 c] [] (.tup [.int .i64 (divV (wv a b) c), .bool (divGood (wv a b) c)]) [] [] :=
  runD_ok 0 k7 2 (fun _ h => nomatch h) fun ⟨⟨ha, hb, _⟩, hc, _⟩ _ K hK => by
    have ha' : -9223372036854775808 ≤ a ∧ a ≤ 9223372036854775807 := ha
    have hb' : 0 ≤ b ∧ b ≤ 18446744073709551615 := hb
    rw [div_entry]
    exact dvP_law (by unfold wv; omega) (by unfold wv; omega) hc.1 hc.2 (hK [] fun _ h => nomatch h)
def cDiv : List SV → List (Option SB) → Out
  | [.agg [.int .i64 a, .int .u64 b], .int .i64 c], [] => some (.tup [.int .i64 (divV (wv a b) c), .bool (divGood (wv a b) c)], [], [])
  | _, _ => none
noncomputable def k8 : Know Try.prog := k7.add 57 (one cDiv) (one_sat fun xs σ v σ' d h => by
    unfold cDiv at h; split at h <;> cases h; exact div_ok _ _ _)
end Go.Proofs.Ytheedafdaolooaa
