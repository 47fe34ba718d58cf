import Derived.Test.YtjlmofhokbnloaaDoorExt
import Derived.Test.YtjlmofhokbnloaaDoorSeArith
namespace Go.Proofs.YtjlmofhokbnloaaDoor
open Go.Se
set_option maxRecDepth 100000

/-- A call of a text with loops: what is still told at each. -/
noncomputable abbrev runL (R : List (Nat × Keep)) (u : Nat → Nat) (B : Know Tryd.prog) (n : Nat) (k : FuncId) (xs : List SV) (σ : List (Option SB)) (K : KC) : Prop :=
  calls (tab.env B u (fun _ => false)) (keepW R) B.dom n k xs σ K
theorem runL_ok (R : List (Nat × Keep)) (u : Nat → Nat) (B : Know Tryd.prog) (n : Nat) {k : FuncId} {xs : List SV} {σ : List (Option SB)} {v : SV} {σ' : List (Option SB)} {d : List Nat}
    (hl : ∀ p, p ∈ d → p < σ.length)
    (h : okL xs → okS σ → ∀ K : KC, (∀ d', (∀ p, p ∈ d' → p ∈ d) → K v σ' d') → runL R u B n k xs σ K) : CallOK Tryd.prog k xs σ v σ' d :=
  callOK_of_callsD (R := R) tab B hl fun h1 h2 => h h1 h2 _ fun _ hd => ⟨rfl, rfl, hd⟩
noncomputable abbrev envL (R : List (Nat × Keep)) (u : Nat → Nat) (B : Know Tryd.prog) (n : Nat) : Env :=
  { tab.env B u (fun _ => false) with callee := calls (tab.env B u (fun _ => false)) (keepW R) B.dom n, round := fun xs σ K => calls.roundsN (tab.env B u (fun _ => false)) (keepW R) B.dom n xs σ K }

def rootR : List (Nat × Keep) := [(0, ⟨[4, 5, 3, 2], [1], [1], 2, []⟩)]
def rootS (a b lo hi : Int) : St := ⟨[(4, .int .u64 lo), (5, .int .u64 hi), (3, .ptr 1 0), (2, .int .u64 0)], [(1, some (.cells 129 [.int .u64 a, .int .u64 b]))], 2, [1], 48⟩
def midW (lo hi : Int) : Int := IntKind.u64.wrap (lo + IntKind.u64.wrap ((IntKind.u64.wrap (IntKind.u64.wrap (hi - lo) + 1)).tdiv 2))
abbrev rootPath : List Nat := [1, 1, 1, 1, 0, 0]
noncomputable abbrev rootE : Env := envL rootR (fun _ => 0) k4 1

def cRoot : List SV → List (Option SB) → Out
  | [.agg [.int .i64 a, .int .u64 b]], [] => some (.int .u64 (isqrt (wv a b)), [], [])
  | _, _ => none
noncomputable def k5 : Know Tryd.prog := k4
end Go.Proofs.YtjlmofhokbnloaaDoor

namespace Go.Proofs.YtjlmofhokbnloaaDoor
open Go.Se
set_option maxRecDepth 100000

def okW (A p : Int) : Bool := in128 (wv (A / 18446744073709551616) (A % 18446744073709551616) + wv (p / 18446744073709551616) (p % 18446744073709551616))
def accW (A p : Int) : Int := bif okW A p then wv (A / 18446744073709551616) (A % 18446744073709551616) + wv (p / 18446744073709551616) (p % 18446744073709551616) else 0
def lenEnd (t : TypeId) (o ok : Bool) (X : Int) (K : KC) : Prop :=
  Br (!ok) (K (.int .i64 9223372036854775807) [some (.cells t [.bool true])] [0])
    (Br (decide (isqrt (wv (X / 18446744073709551616) (X % 18446744073709551616)) > 9223372036854775807)) (K (.int .i64 9223372036854775807) [some (.cells t [.bool true])] [0])
      (K (.int .i64 (IntKind.i64.wrap (isqrt (wv (X / 18446744073709551616) (X % 18446744073709551616))))) [some (.cells t [.bool o])] []))
def KLen (t : TypeId) (o : Bool) (N : Int) (K : KC) : Prop := ∀ d, (∀ p, p ∈ d → p ∈ [0]) → K (.int .i64 (lenV N)) [some (.cells t [.bool (o || !lenGood N)])] d

end Go.Proofs.YtjlmofhokbnloaaDoor

namespace Go.Proofs.YtjlmofhokbnloaaDoor
open Go.Se
set_option maxRecDepth 100000

def finL (b x : Int) (K : KC) : Prop := If (decide (0 ≤ IntKind.u8.wrap x) && decide (IntKind.u8.wrap x < (len8S.size : Int))) (K (.int .i64 (IntKind.i64.wrap (b + IntKind.i64.wrap (len8T (IntKind.u8.wrap x))))) [] [])
def finL8 (b x : Int) (K : KC) : Prop := Br (decide (x ≥ 256)) (finL (b + 8) (x.fdiv 256) K) (finL b x K)
def finL16 (b x : Int) (K : KC) : Prop := Br (decide (x ≥ 65536)) (finL8 (b + 16) (x.fdiv 65536) K) (finL8 b x K)
def finL32 (x : Int) (K : KC) : Prop := Br (decide (x ≥ 4294967296)) (finL16 32 (x.fdiv 4294967296) K) (finL16 0 x K)

theorem finL_law {b x v : Int} {K : KC} (hx : 0 ≤ x) (hx' : x ≤ 255) (hb : 0 ≤ b) (hb' : b ≤ 56) (hv : v = len8T x + b) (hK : K (.int .i64 v) [] []) : finL b x K := by
  unfold finL
  have hl := len8T_range hx hx'
  rw [wu8, show x % 256 = x by omega, wi64, wi64, show (b + ((len8T x + 9223372036854775808) % 18446744073709551616 - 9223372036854775808) + 9223372036854775808) % 18446744073709551616 - 9223372036854775808 = v by omega]
  exact If.mk (by rw [len8S_size]; simp only [Bool.and_eq_true, decide_eq_true_eq]; omega) hK

theorem len64b_ok (a : Int) : CallOK Tryd.prog 132 [.int .u64 a] [] (.int .i64 (len64 a)) [] [] :=
  run_ok k5 2 fun ⟨ha, _⟩ _ K hK => by
    have ha' : 0 ≤ a ∧ a ≤ 18446744073709551615 := ha
    have e : ∀ K, run k5 2 132 [.int .u64 a] [] K = finL32 a K := fun K => by kernel_rfl
    rw [e]
    unfold finL32 finL16 finL8
    simp only [fdiv_pos _ (show (0 : Int) ≤ 4294967296 by decide), fdiv_pos _ (show (0 : Int) ≤ 65536 by decide), fdiv_pos _ (show (0 : Int) ≤ 256 by decide)]
    unfold len64 at hK
    refine Br.of (fun c1 => Br.of (fun c2 => Br.of (fun c3 => ?_) fun c3 => ?_) fun c2 => Br.of (fun c3 => ?_) fun c3 => ?_) fun c1 => Br.of (fun c2 => Br.of (fun c3 => ?_) fun c3 => ?_) fun c2 => Br.of (fun c3 => ?_) fun c3 => ?_ <;>
      simp only [decide_eq_true_eq, decide_eq_false_iff_not] at c1 c2 c3
    · rw [decide_eq_true (show a ≥ 72057594037927936 by omega)] at hK
      exact finL_law (by omega) (by omega) (by omega) (by omega) (by rw [show a / 4294967296 / 65536 / 256 = a / 72057594037927936 by omega]; rfl) hK
    · rw [decide_eq_false (show ¬ a ≥ 72057594037927936 by omega), decide_eq_true (show a ≥ 281474976710656 by omega)] at hK
      exact finL_law (by omega) (by omega) (by omega) (by omega) (by rw [show a / 4294967296 / 65536 = a / 281474976710656 by omega]; rfl) hK
    · rw [decide_eq_false (show ¬ a ≥ 72057594037927936 by omega), decide_eq_false (show ¬ a ≥ 281474976710656 by omega), decide_eq_true (show a ≥ 1099511627776 by omega)] at hK
      exact finL_law (by omega) (by omega) (by omega) (by omega) (by rw [show a / 4294967296 / 256 = a / 1099511627776 by omega]; rfl) hK
    · rw [decide_eq_false (show ¬ a ≥ 72057594037927936 by omega), decide_eq_false (show ¬ a ≥ 281474976710656 by omega), decide_eq_false (show ¬ a ≥ 1099511627776 by omega), decide_eq_true (show a ≥ 4294967296 by omega)] at hK
      exact finL_law (by omega) (by omega) (by omega) (by omega) rfl hK
    · rw [decide_eq_false (show ¬ a ≥ 72057594037927936 by omega), decide_eq_false (show ¬ a ≥ 281474976710656 by omega), decide_eq_false (show ¬ a ≥ 1099511627776 by omega), decide_eq_false (show ¬ a ≥ 4294967296 by omega), decide_eq_true (show a ≥ 16777216 by omega)] at hK
      exact finL_law (by omega) (by omega) (by omega) (by omega) (by rw [show a / 65536 / 256 = a / 16777216 by omega]; rfl) hK
    · rw [decide_eq_false (show ¬ a ≥ 72057594037927936 by omega), decide_eq_false (show ¬ a ≥ 281474976710656 by omega), decide_eq_false (show ¬ a ≥ 1099511627776 by omega), decide_eq_false (show ¬ a ≥ 4294967296 by omega), decide_eq_false (show ¬ a ≥ 16777216 by omega), decide_eq_true (show a ≥ 65536 by omega)] at hK
      exact finL_law (by omega) (by omega) (by omega) (by omega) rfl hK
    · rw [decide_eq_false (show ¬ a ≥ 72057594037927936 by omega), decide_eq_false (show ¬ a ≥ 281474976710656 by omega), decide_eq_false (show ¬ a ≥ 1099511627776 by omega), decide_eq_false (show ¬ a ≥ 4294967296 by omega), decide_eq_false (show ¬ a ≥ 16777216 by omega), decide_eq_false (show ¬ a ≥ 65536 by omega), decide_eq_true (show a ≥ 256 by omega)] at hK
      exact finL_law (by omega) (by omega) (by omega) (by omega) rfl hK
    · rw [decide_eq_false (show ¬ a ≥ 72057594037927936 by omega), decide_eq_false (show ¬ a ≥ 281474976710656 by omega), decide_eq_false (show ¬ a ≥ 1099511627776 by omega), decide_eq_false (show ¬ a ≥ 4294967296 by omega), decide_eq_false (show ¬ a ≥ 16777216 by omega), decide_eq_false (show ¬ a ≥ 65536 by omega), decide_eq_false (show ¬ a ≥ 256 by omega)] at hK
      exact finL_law (by omega) (by omega) (by omega) (by omega) (by simp only [cond_false]; omega) hK

def cLen64 : List SV → List (Option SB) → Out
  | [.int .u64 a], [] => some (.int .i64 (len64 a), [], [])
  | _, _ => none
noncomputable def k6 : Know Tryd.prog := (k5).add 132 (one cLen64) (one_sat fun xs σ v σ' d h => by
    unfold cLen64 at h; split at h <;> cases h; first | exact len64b_ok | exact len64b_ok _ | exact len64b_ok _ _ | exact len64b_ok _ _ _ | exact len64b_ok _ _ _ _ | exact len64b_ok _ _ _ _ _ | exact len64b_ok _ _ _ _ _ _ | exact len64b_ok _ _ _ _ _ _ _ | exact len64b_ok _ _ _ _ _ _ _ _ | exact len64b_ok _ _ _ _ _ _ _ _ _ | exact len64b_ok _ _ _ _ _ _ _ _ _ _ | exact len64b_ok _ _ _ _ _ _ _ _ _ _ _)
end Go.Proofs.YtjlmofhokbnloaaDoor

namespace Go.Proofs.YtjlmofhokbnloaaDoor
open Go.Se
set_option maxRecDepth 100000
theorem div64_entry (hi lo y : Int) (K : KC) : runU 2 k6 3 94 [.int .u64 hi, .int .u64 lo, .int .u64 y] [] K =
    Br (y == 0) False (Br (decide (y ≤ hi)) False (Br (hi == 0)
      (If (y != 0) (If (y != 0) (K (.tup [.int .u64 (IntKind.u64.wrap (lo.tdiv y)), .int .u64 (lo.tmod y)]) [] [])))
      (divP hi lo y K))) := by kernel_rfl
theorem div64_ok (hi lo y : Int) (hlt : hi < y) : CallOK Tryd.prog 94 [.int .u64 hi, .int .u64 lo, .int .u64 y] [] (.tup [.int .u64 ((hi * 18446744073709551616 + lo) / y), .int .u64 ((hi * 18446744073709551616 + lo) % y)]) [] [] :=
  runD_ok 2 k6 3 (fun _ h => nomatch h) fun ⟨hh, hl, hy, _⟩ _ K hK => by
    have hh' : 0 ≤ hi ∧ hi ≤ 18446744073709551615 := hh
    have hl' : 0 ≤ lo ∧ lo ≤ 18446744073709551615 := hl
    have hy' : 0 ≤ y ∧ y ≤ 18446744073709551615 := hy
    have hK := hK [] fun _ h => nomatch h
    rw [div64_entry]
    refine Br.of (fun c => ?_) fun _ => Br.of (fun c => ?_) fun _ => Br.of (fun c => ?_) fun _ => div_law hh'.1 hl'.1 (by omega) hlt (by omega) hK
    · have := eq_of_beq c; omega
    · have := of_decide_eq_true c; omega
    · have := eq_of_beq c
      subst this
      have hy0 : (y != 0) = true := by rw [bne_iff_ne]; omega
      refine If.mk hy0 (If.mk hy0 ?_)
      have hq0 : 0 ≤ lo / y := Int.ediv_nonneg hl'.1 hy'.1
      have hq1 : lo / y ≤ lo := Int.ediv_le_self _ hl'.1
      rw [Int.tdiv_eq_ediv_of_nonneg hl'.1, Int.tmod_eq_emod_of_nonneg hl'.1, wu64, show lo / y % 18446744073709551616 = lo / y by omega]
      rw [Int.zero_mul, Int.zero_add] at hK
      exact hK
def cDiv64 : List SV → List (Option SB) → Option (Bool × SV × List (Option SB) × List Nat)
  | [.int .u64 hi, .int .u64 lo, .int .u64 y], [] => some (decide (hi < y), .tup [.int .u64 ((hi * 18446744073709551616 + lo) / y), .int .u64 ((hi * 18446744073709551616 + lo) % y)], [], [])
  | _, _ => none
noncomputable def k7 : Know Tryd.prog := (k6).add 94 (oneIf cDiv64) (oneIf_sat fun xs σ v σ' d h => by
    unfold cDiv64 at h; split at h
    · simp only [Option.some.injEq, Prod.mk.injEq] at h
      obtain ⟨h1, rfl, rfl, rfl⟩ := h
      first | exact div64_ok h1 | exact div64_ok _ h1 | exact div64_ok _ _ h1 | exact div64_ok _ _ _ h1 | exact div64_ok _ _ _ _ h1 | exact div64_ok _ _ _ _ _ h1 | exact div64_ok _ _ _ _ _ _ h1 | exact div64_ok _ _ _ _ _ _ _ h1 | exact div64_ok _ _ _ _ _ _ _ _ h1 | exact div64_ok _ _ _ _ _ _ _ _ _ h1 | exact div64_ok _ _ _ _ _ _ _ _ _ _ h1 | exact div64_ok _ _ _ _ _ _ _ _ _ _ _ h1 | exact div64_ok _ _ _ _ _ _ _ _ _ _ _ _ h1 | exact div64_ok (of_decide_eq_true h1) | exact div64_ok _ (of_decide_eq_true h1) | exact div64_ok _ _ (of_decide_eq_true h1) | exact div64_ok _ _ _ (of_decide_eq_true h1) | exact div64_ok _ _ _ _ (of_decide_eq_true h1) | exact div64_ok _ _ _ _ _ (of_decide_eq_true h1) | exact div64_ok _ _ _ _ _ _ (of_decide_eq_true h1) | exact div64_ok _ _ _ _ _ _ _ (of_decide_eq_true h1) | exact div64_ok _ _ _ _ _ _ _ _ (of_decide_eq_true h1) | exact div64_ok _ _ _ _ _ _ _ _ _ (of_decide_eq_true h1) | exact div64_ok _ _ _ _ _ _ _ _ _ _ (of_decide_eq_true h1) | exact div64_ok _ _ _ _ _ _ _ _ _ _ _ (of_decide_eq_true h1) | exact div64_ok _ _ _ _ _ _ _ _ _ _ _ _ (of_decide_eq_true h1)
    · cases h)
theorem div_entry (a b c : Int) (K : KC) : runU 0 k7 2 55 [.agg [.int .i64 a, .int .u64 b], .int .i64 c] [] K = dvP (wv a b) c K := by kernel_rfl
theorem div_ok (a b c : Int) : CallOK Tryd.prog 55 [.agg [.int .i64 a, .int .u64 b], .int .i64 c] [] (.tup [.int .i64 (divV (wv a b) c), .bool (divGood (wv a b) c)]) [] [] :=
  runD_ok 0 k7 2 (fun _ h => nomatch h) fun ⟨⟨ha, hb, _⟩, hc, _⟩ _ K hK => by
    have ha' : -9223372036854775808 ≤ a ∧ a ≤ 9223372036854775807 := ha
    have hb' : 0 ≤ b ∧ b ≤ 18446744073709551615 := hb
    rw [div_entry]
    exact dvP_law (by unfold wv; omega) (by unfold wv; omega) hc.1 hc.2 (hK [] fun _ h => nomatch h)
def cDiv : List SV → List (Option SB) → Out
  | [.agg [.int .i64 a, .int .u64 b], .int .i64 c], [] => some (.tup [.int .i64 (divV (wv a b) c), .bool (divGood (wv a b) c)], [], [])
  | _, _ => none
noncomputable def k8 : Know Tryd.prog := (k7).add 55 (one cDiv) (one_sat fun xs σ v σ' d h => by
    unfold cDiv at h; split at h <;> cases h; first | exact div_ok | exact div_ok _ | exact div_ok _ _ | exact div_ok _ _ _ | exact div_ok _ _ _ _ | exact div_ok _ _ _ _ _ | exact div_ok _ _ _ _ _ _ | exact div_ok _ _ _ _ _ _ _ | exact div_ok _ _ _ _ _ _ _ _ | exact div_ok _ _ _ _ _ _ _ _ _ | exact div_ok _ _ _ _ _ _ _ _ _ _ | exact div_ok _ _ _ _ _ _ _ _ _ _ _)
end Go.Proofs.YtjlmofhokbnloaaDoor

