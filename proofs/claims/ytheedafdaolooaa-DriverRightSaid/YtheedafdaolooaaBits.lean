import Derived.Test.YtheedafdaolooaaLen
import Derived.Test.YtheedafdaolooaaSeRoot
namespace Go.Proofs.Ytheedafdaolooaa
open Go.Se
set_option maxRecDepth 100000

def finL (b x : Int) (K : KC) : Prop := If (decide (0 ≤ IntKind.u8.wrap x) && decide (IntKind.u8.wrap x < (len8S.size : Int))) (K (.int .i64 (IntKind.i64.wrap (b + IntKind.i64.wrap (len8T (IntKind.u8.wrap x))))) [] [])
def finL8 (b x : Int) (K : KC) : Prop := Br (decide (x ≥ 256)) (finL (b + 8) (x.fdiv 256) K) (finL b x K)
def finL16 (b x : Int) (K : KC) : Prop := Br (decide (x ≥ 65536)) (finL8 (b + 16) (x.fdiv 65536) K) (finL8 b x K)
def finL32 (x : Int) (K : KC) : Prop := Br (decide (x ≥ 4294967296)) (finL16 32 (x.fdiv 4294967296) K) (finL16 0 x K)

theorem finL_law {b x v : Int} {K : KC} (hx : 0 ≤ x) (hx' : x ≤ 255) (hb : 0 ≤ b) (hb' : b ≤ 56) (hv : v = len8T x + b) (hK : K (.int .i64 v) [] []) : finL b x K := by
  unfold finL
  have hl := len8T_range hx hx'
  rw [wu8, show x % 256 = x by omega, wi64, wi64, show (b + ((len8T x + 9223372036854775808) % 18446744073709551616 - 9223372036854775808) + 9223372036854775808) % 18446744073709551616 - 9223372036854775808 = v by omega]
  exact If.mk (by rw [len8S_size]; simp only [Bool.and_eq_true, decide_eq_true_eq]; omega) hK

theorem len64b_ok (a : Int) : CallOK Try.prog 65 [.int .u64 a] [] (.int .i64 (len64 a)) [] [] :=
  run_ok k5 2 fun ⟨ha, _⟩ _ K hK => by
    have ha' : 0 ≤ a ∧ a ≤ 18446744073709551615 := ha
    have e : ∀ K, run k5 2 65 [.int .u64 a] [] K = finL32 a K := fun K => by kernel_rfl
    rw [e]
    unfold finL32 finL16 finL8
    simp only [fdiv_pos _ (show (0 : Int) ≤ 4294967296 by decide), fdiv_pos _ (show (0 : Int) ≤ 65536 by decide), fdiv_pos _ (show (0 : Int) ≤ 256 by decide)]
    unfold len64 at hK
    refine Br.of (fun c1 => Br.of (fun c2 => Br.of (fun c3 => ?_) fun c3 => ?_) fun c2 => Br.of (fun c3 => ?_) fun c3 => ?_) fun c1 => Br.of (fun c2 => Br.of (fun c3 => ?_) fun c3 => ?_) fun c2 => Br.of (fun c3 => ?_) fun c3 => ?_ <;>
      simp only [decide_eq_true_eq, decide_eq_false_iff_not] at c1 c2 c3
    · rw [decide_eq_true (show a ≥ 72057594037927936 by omega)] at hK
      exact finL_law (by omega) (by omega) (by omega) (by omega) (by rw [show a / 4294967296 / 65536 / 256 = a / 72057594037927936 by omega]; rfl) hK
    · rw [decide_eq_false (show ¬ a ≥ 72057594037927936 by omega), decide_eq_true (show a ≥ 281474976710656 by omega)] at hK
      exact finL_law (by omega) (by omega) (by omega) (by omega) (by rw [show a / 4294967296 / 65536 = a / 281474976710656 by omega]; rfl) hK
    · rw [decide_eq_false (show ¬ a ≥ 72057594037927936 by omega), decide_eq_false (show ¬ a ≥ 281474976710656 by omega), decide_eq_true (show a ≥ 1099511627776 by omega)] at hK
      exact finL_law (by omega) (by omega) (by omega) (by omega) (by rw [show a / 4294967296 / 256 = a / 1099511627776 by omega]; rfl) hK
    · rw [decide_eq_false (show ¬ a ≥ 72057594037927936 by omega), decide_eq_false (show ¬ a ≥ 281474976710656 by omega), decide_eq_false (show ¬ a ≥ 1099511627776 by omega), decide_eq_true (show a ≥ 4294967296 by omega)] at hK
      exact finL_law (by omega) (by omega) (by omega) (by omega) rfl hK
    · rw [decide_eq_false (show ¬ a ≥ 72057594037927936 by omega), decide_eq_false (show ¬ a ≥ 281474976710656 by omega), decide_eq_false (show ¬ a ≥ 1099511627776 by omega), decide_eq_false (show ¬ a ≥ 4294967296 by omega), decide_eq_true (show a ≥ 16777216 by omega)] at hK
      exact finL_law (by omega) (by omega) (by omega) (by omega) (by rw [show a / 65536 / 256 = a / 16777216 by omega]; rfl) hK
    · rw [decide_eq_false (show ¬ a ≥ 72057594037927936 by omega), decide_eq_false (show ¬ a ≥ 281474976710656 by omega), decide_eq_false (show ¬ a ≥ 1099511627776 by omega), decide_eq_false (show ¬ a ≥ 4294967296 by omega), decide_eq_false (show ¬ a ≥ 16777216 by omega), decide_eq_true (show a ≥ 65536 by omega)] at hK
      exact finL_law (by omega) (by omega) (by omega) (by omega) rfl hK
    · rw [decide_eq_false (show ¬ a ≥ 72057594037927936 by omega), decide_eq_false (show ¬ a ≥ 281474976710656 by omega), decide_eq_false (show ¬ a ≥ 1099511627776 by omega), decide_eq_false (show ¬ a ≥ 4294967296 by omega), decide_eq_false (show ¬ a ≥ 16777216 by omega), decide_eq_false (show ¬ a ≥ 65536 by omega), decide_eq_true (show a ≥ 256 by omega)] at hK
      exact finL_law (by omega) (by omega) (by omega) (by omega) rfl hK
    · rw [decide_eq_false (show ¬ a ≥ 72057594037927936 by omega), decide_eq_false (show ¬ a ≥ 281474976710656 by omega), decide_eq_false (show ¬ a ≥ 1099511627776 by omega), decide_eq_false (show ¬ a ≥ 4294967296 by omega), decide_eq_false (show ¬ a ≥ 16777216 by omega), decide_eq_false (show ¬ a ≥ 65536 by omega), decide_eq_false (show ¬ a ≥ 256 by omega)] at hK
      exact finL_law (by omega) (by omega) (by omega) (by omega) (by simp only [cond_false]; omega) hK

def cLen64 : List SV → List (Option SB) → Out
  | [.int .u64 a], [] => some (.int .i64 (len64 a), [], [])
  | _, _ => none
noncomputable def k6 : Know Try.prog := k5.add 65 (one cLen64) (one_sat fun xs σ v σ' d h => by
    unfold cLen64 at h; split at h <;> cases h; exact len64b_ok _)
end Go.Proofs.Ytheedafdaolooaa
