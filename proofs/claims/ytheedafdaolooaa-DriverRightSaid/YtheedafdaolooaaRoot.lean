import Derived.Test.YtheedafdaolooaaFy
import Derived.Test.YtheedafdaolooaaSeRoot
namespace Go.Proofs.Ytheedafdaolooaa
open Go.Se
set_option maxRecDepth 100000

/-- A call of a text with loops: what is still told at each. -/
noncomputable abbrev runL (R : List (Nat × Keep)) (u : Nat → Nat) (B : Know Try.prog) (n : Nat) (k : FuncId) (xs : List SV) (σ : List (Option SB)) (K : KC) : Prop :=
  calls (tab.env B u (fun _ => false)) (keepW R) B.dom n k xs σ K
theorem runL_ok (R : List (Nat × Keep)) (u : Nat → Nat) (B : Know Try.prog) (n : Nat) {k : FuncId} {xs : List SV} {σ : List (Option SB)} {v : SV} {σ' : List (Option SB)} {d : List Nat}
    (hl : ∀ p, p ∈ d → p < σ.length)
    (h : okL xs → okS σ → ∀ K : KC, (∀ d', (∀ p, p ∈ d' → p ∈ d) → K v σ' d') → runL R u B n k xs σ K) : CallOK Try.prog k xs σ v σ' d :=
  callOK_of_callsD (R := R) tab B hl fun h1 h2 => h h1 h2 _ fun _ hd => ⟨rfl, rfl, hd⟩
noncomputable abbrev envL (R : List (Nat × Keep)) (u : Nat → Nat) (B : Know Try.prog) (n : Nat) : Env :=
  { tab.env B u (fun _ => false) with callee := calls (tab.env B u (fun _ => false)) (keepW R) B.dom n }

def rootR : List (Nat × Keep) := [(0, ⟨[4, 5, 3, 2], [1], [1], 2⟩)]
def rootS (a b lo hi : Int) : St := ⟨[(4, .int .u64 lo), (5, .int .u64 hi), (3, .ptr 1 0), (2, .int .u64 0)], [(1, some (.cells 123 [.int .u64 a, .int .u64 b]))], 2, [1], 48⟩
def midW (lo hi : Int) : Int := IntKind.u64.wrap (lo + IntKind.u64.wrap ((IntKind.u64.wrap (IntKind.u64.wrap (hi - lo) + 1)).tdiv 2))
abbrev rootPath : List Nat := [1, 1, 1, 1, 0, 0]
noncomputable abbrev rootE : Env := envL rootR (fun _ => 0) k4 1

theorem root_entry (K : KC) (a b : Int) : runL rootR (fun _ => 0) k4 2 55 [.agg [.int .i64 a, .int .u64 b]] [] K =
    Br (decide (a < 0)) (K (.int .u64 0) [] []) (Br (a == 0 && b == 0) (K (.int .u64 0) [] [])
      (∃ n, loopE rootE (keepW rootR 0) Try.f55 rootPath 0 0 K n (rootS (IntKind.u64.wrap a) b 1 13835058055282163712))) := by kernel_rfl
theorem root_round (K : Ex → St → Prop) (a b lo hi : Int) : roundE rootE (keepW rootR 0) Try.f55 rootPath 0 K (rootS a b lo hi) =
    Br (decide (lo < hi)) (Br (decide (wv a b < wv (midW lo hi * midW lo hi / 18446744073709551616) (midW lo hi * midW lo hi % 18446744073709551616)))
      (K .normal (rootS a b lo (IntKind.u64.wrap (midW lo hi - 1)))) (K .normal (rootS a b (midW lo hi) hi))) (K (.exit 0) (rootS a b lo hi)) := by kernel_rfl
theorem root_after (K : KC) (a b lo hi : Int) : afterE rootE (keepW rootR 0) Try.f55 rootPath 0 K (.exit 0) (rootS a b lo hi) = K (.int .u64 lo) [] [] := by kernel_rfl

theorem root_loop (K : KC) (a b : Int) : ∀ (f : Nat) (lo hi : Int), 0 < lo → lo ≤ hi → hi ≤ 13835058055282163712 → hi - lo < 2 ^ f → K (.int .u64 (rootF f lo hi (wv a b))) [] [] →
    loopE rootE (keepW rootR 0) Try.f55 rootPath 0 0 K (f + 1) (rootS a b lo hi)
  | f, lo, hi, h0, h1, h2, h3, hK => by
    rw [loopE_succ, root_round]
    refine Br.of (fun c1 => ?_) fun c1 => ?_
    · have c1' := of_decide_eq_true c1
      cases f with
      | zero => simp at h3; omega
      | succ f =>
        have hp : (2 : Int) ^ (f + 1) = 2 ^ f * 2 := Int.pow_succ 2 f
        rw [hp] at h3
        have hm : midW lo hi = lo + (hi - lo + 1) / 2 := by
          unfold midW
          simp only [wu64]
          rw [show (hi - lo) % 18446744073709551616 = hi - lo by omega, show (hi - lo + 1) % 18446744073709551616 = hi - lo + 1 by omega, Int.tdiv_eq_ediv_of_nonneg (by omega)]
          omega
        rw [hm, wv_wide, wu64]
        unfold rootF at hK
        rw [c1] at hK
        simp only [cond_true] at hK
        refine Br.of (fun c2 => ?_) fun c2 => ?_
        · rw [c2] at hK
          rw [show (lo + (hi - lo + 1) / 2 - 1) % 18446744073709551616 = lo + (hi - lo + 1) / 2 - 1 by omega]
          exact root_loop K a b f lo _ h0 (by omega) (by omega) (by omega) hK
        · rw [c2] at hK
          exact root_loop K a b f _ hi (by omega) (by omega) h2 (by omega) hK
    · show afterE _ _ _ _ _ _ _ _
      rw [root_after]
      cases f with
      | zero => exact hK
      | succ f =>
        unfold rootF at hK
        rw [c1] at hK
        exact hK

theorem root_ok (a b : Int) : CallOK Try.prog 55 [.agg [.int .i64 a, .int .u64 b]] [] (.int .u64 (isqrt (wv a b))) [] [] :=
  runL_ok rootR (fun _ => 0) k4 2 (fun _ h => nomatch h) fun ⟨⟨ha, hb, _⟩, _⟩ _ K hK => by
    have hK := hK [] fun _ h => nomatch h
    have ha' : -9223372036854775808 ≤ a ∧ a ≤ 9223372036854775807 := ha
    have hb' : 0 ≤ b ∧ b ≤ 18446744073709551615 := hb
    rw [root_entry]
    unfold isqrt at hK
    refine Br.of (fun c1 => ?_) fun c1 => Br.of (fun c2 => ?_) fun c2 => ⟨65, ?_⟩
    · have c1' := of_decide_eq_true c1
      rw [decide_eq_true (show wv a b ≤ 0 by unfold wv; omega)] at hK
      exact hK
    · simp only [Bool.and_eq_true, beq_iff_eq] at c2
      rw [decide_eq_true (show wv a b ≤ 0 by unfold wv; omega)] at hK
      exact hK
    · have c1' := of_decide_eq_false c1
      have c2' : ¬ (a = 0 ∧ b = 0) := by
        rintro ⟨rfl, rfl⟩
        simp at c2
      rw [decide_eq_false (show ¬ wv a b ≤ 0 by unfold wv; omega)] at hK
      rw [wu64, show a % 18446744073709551616 = a by omega]
      exact root_loop K a b 64 1 13835058055282163712 (by omega) (by omega) (by omega) (by decide) hK

def cRoot : List SV → List (Option SB) → Out
  | [.agg [.int .i64 a, .int .u64 b]], [] => some (.int .u64 (isqrt (wv a b)), [], [])
  | _, _ => none
noncomputable def k5 : Know Try.prog := k4.add 55 (one cRoot) (one_sat fun xs σ v σ' d h => by
    unfold cRoot at h; split at h <;> cases h; exact root_ok _ _)
end Go.Proofs.Ytheedafdaolooaa
