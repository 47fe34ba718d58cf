import Derived.Test.YtheedafdaolooaaWidg
namespace Go.Proofs.Ytheedafdaolooaa
open Go.Se
set_option maxRecDepth 100000

def cOr : List SV → List (Option SB) → Out
  | [.arr 0 0 2 2], [some (.cells t [.int .i64 a, .int .i64 b])] => some (.int .i64 (bif a != 0 then a else b), [some (.cells t [.int .i64 a, .int .i64 b])], [])
  | _, _ => none
theorem or_ok (t : TypeId) (a b : Int) : CallOK Try.prog 45 [.arr 0 0 2 2] [some (.cells t [.int .i64 a, .int .i64 b])] (.int .i64 (bif a != 0 then a else b)) [some (.cells t [.int .i64 a, .int .i64 b])] [] :=
  runU_ok 3 k2 2 fun _ _ K hK => by
    have e : ∀ K, runU 3 k2 2 45 [.arr 0 0 2 2] [some (.cells t [.int .i64 a, .int .i64 b])] K =
      Br (a != 0) (K (.int .i64 a) [some (.cells t [.int .i64 a, .int .i64 b])] [])
        (Br (b != 0) (K (.int .i64 b) [some (.cells t [.int .i64 a, .int .i64 b])] []) (K (.int .i64 0) [some (.cells t [.int .i64 a, .int .i64 b])] [])) := fun K => by kernel_rfl
    rw [e]
    refine Br.of (fun h => ?_) fun h => Br.of (fun h2 => ?_) fun h2 => ?_ <;> rw [h] at hK
    · exact hK
    · exact hK
    · have : b = 0 := by simpa using h2
      subst this; exact hK
noncomputable def k3 : Know Try.prog := ((((((k2.add 45 (one cOr) (one_sat fun xs σ v σ' d h => by
    unfold cOr at h; split at h <;> cases h; exact or_ok _ _ _)).add 26 (one cMul) (one_sat fun xs σ v σ' d h => by
    unfold cMul at h; split at h <;> cases h; exact mul_ok _ _)).add 25 (one cAdd) (one_sat fun xs σ v σ' d h => by
    unfold cAdd at h; split at h <;> cases h; exact add_ok _ _ _ _)).add 37 (one cNeg) (one_sat fun xs σ v σ' d h => by
    unfold cNeg at h; split at h <;> cases h; exact neg_ok _ _)).add 61 (one cSized) (one_sat fun xs σ v σ' d h => by
    unfold cSized at h; split at h <;> cases h; exact sized_ok _ _)).add 58 (one cBelow) (one_sat fun xs σ v σ' d h => by
    unfold cBelow at h; split at h <;> cases h; exact below_ok _ _ _ _))

theorem cmp_ok (a b c d : Int) : CallOK Try.prog 27 [.agg [.int .i64 a, .int .u64 b], .agg [.int .i64 c, .int .u64 d]] [] (.int .i64 (cmpI (wv a b) (wv c d))) [] [] :=
  run_ok k3 2 fun ⟨⟨ha, hb, _⟩, ⟨hc, hd, _⟩, _⟩ _ K hK => by
    have hb' : 0 ≤ b ∧ b ≤ 18446744073709551615 := hb
    have hd' : 0 ≤ d ∧ d ≤ 18446744073709551615 := hd
    have e : ∀ K, run k3 2 27 [.agg [.int .i64 a, .int .u64 b], .agg [.int .i64 c, .int .u64 d]] [] K =
      K (.int .i64 (bif cmpI a c != 0 then cmpI a c else cmpI b d)) [] [] := fun K => by kernel_rfl
    rw [e]
    refine fin hK (congrArg (SV.int .i64) ?_)
    unfold cmpI wv
    by_cases h1 : a < c
    · rw [decide_eq_true h1, decide_eq_true (show a * 18446744073709551616 + b < c * 18446744073709551616 + d by omega)]; rfl
    · by_cases h2 : c < a
      · rw [decide_eq_false h1, decide_eq_true h2, decide_eq_false (show ¬ a * 18446744073709551616 + b < c * 18446744073709551616 + d by omega), decide_eq_true (show c * 18446744073709551616 + d < a * 18446744073709551616 + b by omega)]; rfl
      · have : a = c := by omega
        subst this
        rw [decide_eq_false h1, decide_eq_decide.2 (show a * 18446744073709551616 + b < a * 18446744073709551616 + d ↔ b < d by omega), decide_eq_decide.2 (show a * 18446744073709551616 + d < a * 18446744073709551616 + b ↔ d < b by omega)]; rfl

noncomputable def k4 : Know Try.prog := k3.add 27 (one cCmp) (one_sat fun xs σ v σ' d h => by
    unfold cCmp at h; split at h <;> cases h; exact cmp_ok _ _ _ _)
end Go.Proofs.Ytheedafdaolooaa
