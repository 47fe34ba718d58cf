import Derived.Test.YtheedafdaolooaaSin
namespace Go.Proofs.Ytheedafdaolooaa
open Go.Se
set_option maxRecDepth 100000
def firstR : List (Nat × Keep) := [(0, ⟨[5, 6, 0, 1, 4], [], [], 0⟩)]
def firstS (x y lo hi : Int) : St := ⟨[(5, .int .u32 lo), (6, .int .u32 hi), (0, .int .i64 x), (1, .int .i64 y), (4, .int .u32 0)], [], 0, [], 32⟩
def midT (lo hi : Int) : Int := IntKind.u32.wrap (lo + IntKind.u32.wrap ((IntKind.u32.wrap (IntKind.u32.wrap (hi - lo) + 1)).tdiv 2))
abbrev firstPath : List Nat := [1, 1, 0, 0]
noncomputable abbrev firstE : Env := envL firstR (fun _ => 0) k13 1
theorem first_entry (K : KC) (x y : Int) : runL firstR (fun _ => 0) k13 2 36 [.int .i64 x, .int .i64 y] [] K =
    ∃ n, loopE firstE (keepW firstR 0) Try.f36 firstPath 0 0 K n (firstS x y 0 1073741824) := by kernel_rfl
theorem first_round (K : Ex → St → Prop) (x y lo hi : Int) : roundE firstE (keepW firstR 0) Try.f36 firstPath 0 K (firstS x y lo hi) =
    Br (decide (lo < hi)) ((fun m => Br (decide (cmpI (wv (y * cosF m / 18446744073709551616) (y * cosF m % 18446744073709551616)) (wv (x * sinF m / 18446744073709551616) (x * sinF m % 18446744073709551616)) ≥ 0))
      (K .normal (firstS x y m hi)) (K .normal (firstS x y lo (IntKind.u32.wrap (m - 1))))) (midT lo hi)) (K (.exit 0) (firstS x y lo hi)) := by kernel_rfl
theorem first_after (K : KC) (x y lo hi : Int) : afterE firstE (keepW firstR 0) Try.f36 firstPath 0 K (.exit 0) (firstS x y lo hi) = K (.int .u32 lo) [] [] := by kernel_rfl
theorem first_loop (K : KC) (x y : Int) : ∀ (f : Nat) (lo hi : Int), 0 ≤ lo → lo ≤ hi → hi ≤ 1073741824 → hi - lo < 2 ^ f → K (.int .u32 (firstF x y f lo hi)) [] [] →
    loopE firstE (keepW firstR 0) Try.f36 firstPath 0 0 K (f + 1) (firstS x y lo hi)
  | f, lo, hi, h0, h1, h2, h3, hK => by
    rw [loopE_succ, first_round]
    refine Br.of (fun c1 => ?_) fun c1 => ?_
    · have c1' := of_decide_eq_true c1
      cases f with
      | zero => simp at h3; omega
      | succ f =>
        have hp : (2 : Int) ^ (f + 1) = 2 ^ f * 2 := Int.pow_succ 2 f
        rw [hp] at h3
        have hm : midT lo hi = lo + (hi - lo + 1) / 2 := by
          unfold midT
          simp only [wu32]
          rw [show (hi - lo) % 4294967296 = hi - lo by omega, show (hi - lo + 1) % 4294967296 = hi - lo + 1 by omega, Int.tdiv_eq_ediv_of_nonneg (by omega)]
          omega
        show Br _ _ _
        rw [hm, wv_wide, wv_wide, wu32]
        unfold firstF at hK
        rw [c1] at hK
        simp only [cond_true] at hK
        refine Br.of (fun c2 => ?_) fun c2 => ?_
        · rw [show holdsF x y (lo + (hi - lo + 1) / 2) = true from c2] at hK
          exact first_loop K x y f _ hi (by omega) (by omega) h2 (by omega) hK
        · rw [show holdsF x y (lo + (hi - lo + 1) / 2) = false from c2] at hK
          rw [show (lo + (hi - lo + 1) / 2 - 1) % 4294967296 = lo + (hi - lo + 1) / 2 - 1 by omega]
          exact first_loop K x y f lo _ h0 (by omega) (by omega) (by omega) hK
    · show afterE _ _ _ _ _ _ _ _
      rw [first_after]
      cases f with
      | zero => exact hK
      | succ f =>
        unfold firstF at hK
        rw [c1] at hK
        exact hK
theorem first_ok (x y : Int) : CallOK Try.prog 36 [.int .i64 x, .int .i64 y] [] (.int .u32 (firstV x y)) [] [] :=
  runL_ok firstR (fun _ => 0) k13 2 (fun _ h => nomatch h) fun _ _ K hK => by
    rw [first_entry]
    exact ⟨32, first_loop K x y 31 0 1073741824 (by omega) (by omega) (by omega) (by decide) (hK [] fun _ h => nomatch h)⟩
def cFirst : List SV → List (Option SB) → Out
  | [.int .i64 x, .int .i64 y], [] => some (.int .u32 (firstV x y), [], [])
  | _, _ => none
noncomputable def k14 : Know Try.prog := k13.add 36 (one cFirst) (one_sat fun xs σ v σ' d h => by
    unfold cFirst at h; split at h <;> cases h; exact first_ok _ _)
end Go.Proofs.Ytheedafdaolooaa
