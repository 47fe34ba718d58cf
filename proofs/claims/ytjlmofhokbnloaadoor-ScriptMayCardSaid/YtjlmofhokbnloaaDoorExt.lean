import Derived.Test.YtjlmofhokbnloaaDoorBase
import Derived.Test.YtjlmofhokbnloaaDoorSeArith
namespace Go.Proofs.YtjlmofhokbnloaaDoor
open Go.Se
noncomputable def k0 : Know Tryd.prog := ((Know.none Tryd.prog).add 96 add64 (add64_sat Tryd.func96 (by kernel_rfl) (by kernel_rfl) (by kernel_rfl) (by kernel_rfl))).add 97 sub64 (sub64_sat Tryd.func97 (by kernel_rfl) (by kernel_rfl) (by kernel_rfl) (by kernel_rfl))
end Go.Proofs.YtjlmofhokbnloaaDoor

namespace Go.Proofs.YtjlmofhokbnloaaDoor
open Go.Se
set_option maxRecDepth 100000

/-- What a call comes to: by its text, and what is known. -/
noncomputable abbrev run (B : Know Tryd.prog) (n : Nat) (k : FuncId) (xs : List SV) (σ : List (Option SB)) (K : KC) : Prop :=
  calls (tab.env B (fun _ => 0) (fun _ => false)) (keepW []) B.dom n k xs σ K
theorem run_ok (B : Know Tryd.prog) (n : Nat) {k : FuncId} {xs : List SV} {σ : List (Option SB)} {v : SV} {σ' : List (Option SB)} {d : List Nat}
    (h : okL xs → okS σ → ∀ K : KC, K v σ' d → run B n k xs σ K) : CallOK Tryd.prog k xs σ v σ' d := callOK_of_calls (R := []) tab B fun h1 h2 => h h1 h2 _ ⟨rfl, rfl, rfl⟩
/-- The same, with loops unrolled so far. -/
noncomputable abbrev runU (u : Nat) (B : Know Tryd.prog) (n : Nat) (k : FuncId) (xs : List SV) (σ : List (Option SB)) (K : KC) : Prop :=
  calls (tab.env B (fun _ => u) (fun _ => false)) (keepW []) B.dom n k xs σ K
theorem runU_ok (u : Nat) (B : Know Tryd.prog) (n : Nat) {k : FuncId} {xs : List SV} {σ : List (Option SB)} {v : SV} {σ' : List (Option SB)} {d : List Nat}
    (h : okL xs → okS σ → ∀ K : KC, K v σ' d → runU u B n k xs σ K) : CallOK Tryd.prog k xs σ v σ' d := callOK_of_calls (R := []) tab B fun h1 h2 => h h1 h2 _ ⟨rfl, rfl, rfl⟩
theorem fin {K : KC} {v v' : SV} {σ : List (Option SB)} {d : List Nat} (h : K v σ d) (e : v' = v) : K v' σ d := e ▸ h

def m32 (x : Int) : Int := IntKind.u64.wrap ↑(BitVec.ofInt IntKind.u64.bits x &&& BitVec.ofInt IntKind.u64.bits 4294967295).toNat
def mulT (a b : Int) : Int := IntKind.u64.wrap (IntKind.u64.wrap (a.fdiv 4294967296 * m32 b) + (IntKind.u64.wrap (m32 a * m32 b)).fdiv 4294967296)
def mulHi (a b : Int) : Int := IntKind.u64.wrap (IntKind.u64.wrap (IntKind.u64.wrap (a.fdiv 4294967296 * b.fdiv 4294967296) + (mulT a b).fdiv 4294967296) + (IntKind.u64.wrap (m32 (mulT a b) + IntKind.u64.wrap (m32 a * b.fdiv 4294967296))).fdiv 4294967296)

theorem mulHi_eq {a b : Int} (ha : 0 ≤ a) (ha' : a ≤ 18446744073709551615) (hb : 0 ≤ b) (hb' : b ≤ 18446744073709551615) : mulHi a b = a * b / 18446744073709551616 := by
  have hm : ∀ x : Int, 0 ≤ x → x ≤ 18446744073709551615 → m32 x = x % 4294967296 := fun x h h' => by
    unfold m32; rw [wu64]; show (((BitVec.ofInt 64 x &&& BitVec.ofInt 64 4294967295).toNat : Nat) : Int) % _ = _
    rw [and_m32 x h h']; omega
  obtain ⟨h0, h1, h2, h3, h4, h5, h6, h7, h8⟩ := mul_hi ha ha' hb hb' rfl rfl rfl rfl
  have hf : ∀ x : Int, x.fdiv 4294967296 = x / 4294967296 := fun x => fdiv_pos x (by decide)
  have hT : mulT a b = a / 4294967296 * (b % 4294967296) + (a % 4294967296 * (b % 4294967296)) / 4294967296 := by
    unfold mulT
    rw [hm a ha ha', hm b hb hb']
    simp only [wu64, hf]
    omega
  unfold mulHi
  rw [hm a ha ha', hm (mulT a b) (by rw [hT]; omega) (by rw [hT]; omega)]
  simp only [wu64, hf]
  rw [hT]
  generalize a / 4294967296 * (b / 4294967296) = p at *
  generalize a / 4294967296 * (b % 4294967296) = q at *
  generalize a % 4294967296 * (b / 4294967296) = r at *
  generalize a % 4294967296 * (b % 4294967296) = s at *
  omega

theorem mul64_ok (a b : Int) : CallOK Tryd.prog 95 [.int .u64 a, .int .u64 b] [] (.tup [.int .u64 (a * b / 18446744073709551616), .int .u64 (a * b % 18446744073709551616)]) [] [] :=
  run_ok k0 2 fun ⟨ha, hb, _⟩ _ K hK => by
    have e : ∀ K, run k0 2 95 [.int .u64 a, .int .u64 b] [] K = K (.tup [.int .u64 (mulHi a b), .int .u64 (IntKind.u64.wrap (a * b))]) [] [] := fun K => by kernel_rfl
    rw [e, mulHi_eq ha.1 ha.2 hb.1 hb.2, wu64]
    exact hK

theorem of_ok (a : Int) : CallOK Tryd.prog 58 [.int .i64 a] [] (wideSV a) [] [] :=
  run_ok k0 2 fun ⟨ha, _⟩ _ K hK => by
    have e : ∀ K, run k0 2 58 [.int .i64 a] [] K = K (.agg [.int .i64 (a.fdiv 9223372036854775808), .int .u64 (IntKind.u64.wrap a)]) [] [] := fun K => by kernel_rfl
    have ha' : -9223372036854775808 ≤ a ∧ a ≤ 9223372036854775807 := ha
    rw [e, wu64, fdiv_pos _ (by decide)]
    exact fin hK (wide_eq (by omega) (by omega) (by omega))
end Go.Proofs.YtjlmofhokbnloaaDoor

namespace Go.Proofs.YtjlmofhokbnloaaDoor
open Go.Se
set_option maxRecDepth 100000

noncomputable def k1 : Know Tryd.prog := ((k0).add 95 (one cMul64) (one_sat fun xs σ v σ' d h => by
    unfold cMul64 at h; split at h <;> cases h; first | exact mul64_ok | exact mul64_ok _ | exact mul64_ok _ _ | exact mul64_ok _ _ _ | exact mul64_ok _ _ _ _ | exact mul64_ok _ _ _ _ _ | exact mul64_ok _ _ _ _ _ _ | exact mul64_ok _ _ _ _ _ _ _ | exact mul64_ok _ _ _ _ _ _ _ _ | exact mul64_ok _ _ _ _ _ _ _ _ _ | exact mul64_ok _ _ _ _ _ _ _ _ _ _ | exact mul64_ok _ _ _ _ _ _ _ _ _ _ _)).add 58 (one cOf) (one_sat fun xs σ v σ' d h => by
    unfold cOf at h; split at h <;> cases h; first | exact of_ok | exact of_ok _ | exact of_ok _ _ | exact of_ok _ _ _ | exact of_ok _ _ _ _ | exact of_ok _ _ _ _ _ | exact of_ok _ _ _ _ _ _ | exact of_ok _ _ _ _ _ _ _ | exact of_ok _ _ _ _ _ _ _ _ | exact of_ok _ _ _ _ _ _ _ _ _ | exact of_ok _ _ _ _ _ _ _ _ _ _ | exact of_ok _ _ _ _ _ _ _ _ _ _ _)
theorem mul_ok (a b : Int) : CallOK Tryd.prog 56 [.int .i64 a, .int .i64 b] [] (wideSV (a * b)) [] [] :=
  run_ok k1 2 fun ⟨ha, hb, _⟩ _ K hK => by
    have ha' : -9223372036854775808 ≤ a ∧ a ≤ 9223372036854775807 := ha
    have hb' : -9223372036854775808 ≤ b ∧ b ≤ 9223372036854775807 := hb
    have e : ∀ K, run k1 2 56 [.int .i64 a, .int .i64 b] [] K =
      Br (decide (a < 0))
        (Br (decide (b < 0))
          (K (.agg [.int .i64 (IntKind.i64.wrap (IntKind.u64.wrap (IntKind.u64.wrap (IntKind.u64.wrap a * IntKind.u64.wrap b / 18446744073709551616 - IntKind.u64.wrap b) - IntKind.u64.wrap a))), .int .u64 (IntKind.u64.wrap a * IntKind.u64.wrap b % 18446744073709551616)]) [] [])
          (K (.agg [.int .i64 (IntKind.i64.wrap (IntKind.u64.wrap (IntKind.u64.wrap a * IntKind.u64.wrap b / 18446744073709551616 - IntKind.u64.wrap b))), .int .u64 (IntKind.u64.wrap a * IntKind.u64.wrap b % 18446744073709551616)]) [] []))
        (Br (decide (b < 0))
          (K (.agg [.int .i64 (IntKind.i64.wrap (IntKind.u64.wrap (IntKind.u64.wrap a * IntKind.u64.wrap b / 18446744073709551616 - IntKind.u64.wrap a))), .int .u64 (IntKind.u64.wrap a * IntKind.u64.wrap b % 18446744073709551616)]) [] [])
          (K (.agg [.int .i64 (IntKind.i64.wrap (IntKind.u64.wrap a * IntKind.u64.wrap b / 18446744073709551616)), .int .u64 (IntKind.u64.wrap a * IntKind.u64.wrap b % 18446744073709551616)]) [] [])) := fun K => by kernel_rfl
    rw [e]
    simp only [wu64, wi64]
    have hp1 : (a + 18446744073709551616) * (b + 18446744073709551616) = a * b + (a + b) * 18446744073709551616 + 340282366920938463463374607431768211456 := by grind
    have hp2 : (a + 18446744073709551616) * b = a * b + b * 18446744073709551616 := by grind
    have hp3 : a * (b + 18446744073709551616) = a * b + a * 18446744073709551616 := by grind
    have hr : -85070591730234615865843651857942052864 ≤ a * b ∧ a * b ≤ 85070591730234615865843651857942052864 := mul_range ha'.1 ha'.2 hb'.1 hb'.2
    have hn : ∀ x : Int, -9223372036854775808 ≤ x → x ≤ 9223372036854775807 → x < 0 → x % 18446744073709551616 = x + 18446744073709551616 := fun x _ _ _ => by omega
    have hq : ∀ x : Int, -9223372036854775808 ≤ x → x ≤ 9223372036854775807 → ¬ x < 0 → x % 18446744073709551616 = x := fun x _ _ _ => by omega
    refine Br.of (fun h1 => Br.of (fun h2 => ?_) fun h2 => ?_) fun h1 => Br.of (fun h2 => ?_) fun h2 => ?_
    · have h1' := of_decide_eq_true h1
      have h2' := of_decide_eq_true h2
      rw [hn a ha'.1 ha'.2 h1', hn b hb'.1 hb'.2 h2', hp1]
      exact fin hK (wide_eq (by omega) (by omega) (by omega))
    · have h1' := of_decide_eq_true h1
      have h2' := of_decide_eq_false h2
      rw [hn a ha'.1 ha'.2 h1', hq b hb'.1 hb'.2 h2', hp2]
      exact fin hK (wide_eq (by omega) (by omega) (by omega))
    · have h1' := of_decide_eq_false h1
      have h2' := of_decide_eq_true h2
      rw [hq a ha'.1 ha'.2 h1', hn b hb'.1 hb'.2 h2', hp3]
      exact fin hK (wide_eq (by omega) (by omega) (by omega))
    · have h1' := of_decide_eq_false h1
      have h2' := of_decide_eq_false h2
      rw [hq a ha'.1 ha'.2 h1', hq b hb'.1 hb'.2 h2']
      exact fin hK (wide_eq (by omega) (by omega) (by omega))

theorem add_ok (a b c d : Int) : CallOK Tryd.prog 57 [.agg [.int .i64 a, .int .u64 b], .agg [.int .i64 c, .int .u64 d]] []
    (.tup [wideSV (bif in128 (wv a b + wv c d) then wv a b + wv c d else 0), .bool (in128 (wv a b + wv c d))]) [] [] :=
  run_ok k1 2 fun ⟨⟨ha, hb, _⟩, ⟨hc, hd, _⟩, _⟩ _ K hK => by
    have ha' : -9223372036854775808 ≤ a ∧ a ≤ 9223372036854775807 := ha
    have hb' : 0 ≤ b ∧ b ≤ 18446744073709551615 := hb
    have hc' : -9223372036854775808 ≤ c ∧ c ≤ 9223372036854775807 := hc
    have hd' : 0 ≤ d ∧ d ≤ 18446744073709551615 := hd
    have e : ∀ K, run k1 2 57 [.agg [.int .i64 a, .int .u64 b], .agg [.int .i64 c, .int .u64 d]] [] K =
      If (decide (0 ≤ (b + d + 0) / 18446744073709551616) && decide ((b + d + 0) / 18446744073709551616 ≤ 1))
        (Br (decide (a < 0) == decide (c < 0))
          (Br (!(decide (IntKind.i64.wrap ((IntKind.u64.wrap a + IntKind.u64.wrap c + (b + d + 0) / 18446744073709551616) % 18446744073709551616) < 0) == decide (a < 0)))
            (K (.tup [.agg [.int .i64 0, .int .u64 0], .bool false]) [] [])
            (K (.tup [.agg [.int .i64 (IntKind.i64.wrap ((IntKind.u64.wrap a + IntKind.u64.wrap c + (b + d + 0) / 18446744073709551616) % 18446744073709551616)), .int .u64 ((b + d + 0) % 18446744073709551616)], .bool true]) [] []))
          (K (.tup [.agg [.int .i64 (IntKind.i64.wrap ((IntKind.u64.wrap a + IntKind.u64.wrap c + (b + d + 0) / 18446744073709551616) % 18446744073709551616)), .int .u64 ((b + d + 0) % 18446744073709551616)], .bool true]) [] [])) := fun K => by kernel_rfl
    rw [e]
    have hcar : (decide (0 ≤ (b + d + 0) / 18446744073709551616) && decide ((b + d + 0) / 18446744073709551616 ≤ 1)) = true := by
      simp only [Bool.and_eq_true, decide_eq_true_eq]; omega
    refine If.mk hcar ?_
    simp only [wu64, wi64]
    have hin : in128 (wv a b + wv c d) = true ↔ -170141183460469231731687303715884105728 ≤ wv a b + wv c d ∧ wv a b + wv c d < 170141183460469231731687303715884105728 := by
      unfold in128; simp only [Bool.and_eq_true, decide_eq_true_eq]
    unfold wv at *
    refine Br.of (fun h1 => Br.of (fun h2 => ?_) fun h2 => ?_) fun h1 => ?_
    · have hno : in128 (a * 18446744073709551616 + b + (c * 18446744073709551616 + d)) = false := by
        cases hh : in128 (a * 18446744073709551616 + b + (c * 18446744073709551616 + d)) with
        | false => rfl
        | true =>
          exfalso
          have h3 := hin.1 hh
          simp only [beq_iff_eq, decide_eq_decide] at h1
          simp only [Bool.not_eq_true', beq_eq_false_iff_ne, ne_eq, decide_eq_decide] at h2
          omega
      rw [hno] at hK
      exact hK
    · have hyes : in128 (a * 18446744073709551616 + b + (c * 18446744073709551616 + d)) = true := by
        refine hin.2 ?_
        simp only [beq_iff_eq, decide_eq_decide] at h1
        simp only [Bool.not_eq_false', beq_iff_eq, decide_eq_decide] at h2
        omega
      have h3 := hin.1 hyes
      rw [hyes] at hK
      refine fin hK ?_
      rw [wide_eq (x := a * 18446744073709551616 + b + (c * 18446744073709551616 + d)) (by omega) (by omega) (by omega)]; rfl
    · have hyes : in128 (a * 18446744073709551616 + b + (c * 18446744073709551616 + d)) = true := by
        refine hin.2 ?_
        simp only [beq_eq_false_iff_ne, ne_eq, decide_eq_decide] at h1
        omega
      have h3 := hin.1 hyes
      rw [hyes] at hK
      refine fin hK ?_
      rw [wide_eq (x := a * 18446744073709551616 + b + (c * 18446744073709551616 + d)) (by omega) (by omega) (by omega)]; rfl
end Go.Proofs.YtjlmofhokbnloaaDoor

namespace Go.Proofs.YtjlmofhokbnloaaDoor
open Go.Se
set_option maxRecDepth 100000

theorem neg_ok (a b : Int) : CallOK Tryd.prog 59 [.agg [.int .i64 a, .int .u64 b]] []
    (.tup [wideSV (bif in128 (-wv a b) then -wv a b else 0), .bool (in128 (-wv a b))]) [] [] :=
  run_ok k1 2 fun ⟨⟨ha, hb, _⟩, _⟩ _ K hK => by
    have ha' : -9223372036854775808 ≤ a ∧ a ≤ 9223372036854775807 := ha
    have hb' : 0 ≤ b ∧ b ≤ 18446744073709551615 := hb
    have e : ∀ K, run k1 2 59 [.agg [.int .i64 a, .int .u64 b]] [] K =
      If (decide ((0 : Int) ≤ bif decide (0 < b + 0) then 1 else 0) && decide ((bif decide (0 < b + 0) then 1 else 0) ≤ (1 : Int)))
        (Br (decide (a < 0))
          (Br (decide (IntKind.i64.wrap ((0 - IntKind.u64.wrap a - bif decide (0 < b + 0) then 1 else 0) % 18446744073709551616) < 0))
            (K (.tup [.agg [.int .i64 0, .int .u64 0], .bool false]) [] [])
            (K (.tup [.agg [.int .i64 (IntKind.i64.wrap ((0 - IntKind.u64.wrap a - bif decide (0 < b + 0) then 1 else 0) % 18446744073709551616)), .int .u64 ((0 - b - 0) % 18446744073709551616)], .bool true]) [] []))
          (K (.tup [.agg [.int .i64 (IntKind.i64.wrap ((0 - IntKind.u64.wrap a - bif decide (0 < b + 0) then 1 else 0) % 18446744073709551616)), .int .u64 ((0 - b - 0) % 18446744073709551616)], .bool true]) [] [])) := fun K => by kernel_rfl
    rw [e]
    simp only [wu64, wi64]
    have hin : in128 (-wv a b) = true ↔ -170141183460469231731687303715884105728 ≤ -wv a b ∧ -wv a b < 170141183460469231731687303715884105728 := by
      unfold in128; simp only [Bool.and_eq_true, decide_eq_true_eq]
    unfold wv at *
    obtain ⟨c, hc, hcb⟩ : ∃ c : Int, (bif decide (0 < b + 0) then 1 else 0) = c ∧ ((b = 0 ∧ c = 0) ∨ (0 < b ∧ c = 1)) := by
      by_cases h : 0 < b + 0
      · exact ⟨1, by rw [decide_eq_true h]; rfl, .inr ⟨by omega, rfl⟩⟩
      · exact ⟨0, by rw [decide_eq_false h]; rfl, .inl ⟨by omega, rfl⟩⟩
    rw [hc]
    refine If.mk (by simp only [Bool.and_eq_true, decide_eq_true_eq]; omega) ?_
    have hfin : in128 (-(a * 18446744073709551616 + b)) = true → K (.tup [.agg [.int .i64 (((0 - a % 18446744073709551616 - c) % 18446744073709551616 + 9223372036854775808) % 18446744073709551616 - 9223372036854775808), .int .u64 ((0 - b - 0) % 18446744073709551616)], .bool true]) [] [] := by
      intro hyes
      have h3 := hin.1 hyes
      rw [hyes] at hK
      refine fin hK ?_
      rw [wide_eq (x := -(a * 18446744073709551616 + b)) (by omega) (by omega) (by omega)]; rfl
    refine Br.of (fun h1 => Br.of (fun h2 => ?_) fun h2 => ?_) fun h1 => ?_
    · have hno : in128 (-(a * 18446744073709551616 + b)) = false := by
        cases hh : in128 (-(a * 18446744073709551616 + b)) with
        | false => rfl
        | true =>
          exfalso
          have h3 := hin.1 hh
          simp only [decide_eq_true_eq] at h1 h2
          omega
      rw [hno] at hK
      exact hK
    · simp only [decide_eq_true_eq, decide_eq_false_iff_not] at h1 h2
      exact hfin (hin.2 (by omega))
    · simp only [decide_eq_false_iff_not] at h1
      exact hfin (hin.2 (by omega))

theorem sized_ok (a b : Int) : CallOK Tryd.prog 93 [.agg [.int .i64 a, .int .u64 b]] []
    (.tup [.agg [.int .u64 (absI (wv a b) / 18446744073709551616), .int .u64 (absI (wv a b) % 18446744073709551616)], .bool (decide (wv a b < 0))]) [] [] :=
  run_ok k1 2 fun ⟨⟨ha, hb, _⟩, _⟩ _ K hK => by
    have ha' : -9223372036854775808 ≤ a ∧ a ≤ 9223372036854775807 := ha
    have hb' : 0 ≤ b ∧ b ≤ 18446744073709551615 := hb
    have e : ∀ K, run k1 2 93 [.agg [.int .i64 a, .int .u64 b]] [] K =
      Br (decide (a ≥ 0))
        (K (.tup [.agg [.int .u64 (IntKind.u64.wrap a), .int .u64 b], .bool false]) [] [])
        (If (decide ((0 : Int) ≤ bif decide (0 < b + 0) then 1 else 0) && decide ((bif decide (0 < b + 0) then 1 else 0) ≤ (1 : Int)))
          (K (.tup [.agg [.int .u64 ((0 - IntKind.u64.wrap a - bif decide (0 < b + 0) then 1 else 0) % 18446744073709551616), .int .u64 ((0 - b - 0) % 18446744073709551616)], .bool true]) [] [])) := fun K => by kernel_rfl
    rw [e]
    simp only [wu64]
    obtain ⟨c, hc, hcb⟩ : ∃ c : Int, (bif decide (0 < b + 0) then 1 else 0) = c ∧ ((b = 0 ∧ c = 0) ∨ (0 < b ∧ c = 1)) := by
      by_cases h : 0 < b + 0
      · exact ⟨1, by rw [decide_eq_true h]; rfl, .inr ⟨by omega, rfl⟩⟩
      · exact ⟨0, by rw [decide_eq_false h]; rfl, .inl ⟨by omega, rfl⟩⟩
    rw [hc]
    refine Br.of (fun h1 => ?_) fun h1 => If.mk (by simp only [Bool.and_eq_true, decide_eq_true_eq]; omega) ?_
    · simp only [decide_eq_true_eq] at h1
      have hn : decide (wv a b < 0) = false := decide_eq_false (by unfold wv; omega)
      unfold absI at hK
      rw [hn] at hK
      simp only [cond_false] at hK
      unfold wv at hK
      refine fin hK ?_
      rw [show a % 18446744073709551616 = (a * 18446744073709551616 + b) / 18446744073709551616 by omega, show b = (a * 18446744073709551616 + b) % 18446744073709551616 by omega]
      congr 6 <;> omega
    · simp only [decide_eq_false_iff_not] at h1
      have hn : decide (wv a b < 0) = true := decide_eq_true (by unfold wv; omega)
      unfold absI at hK
      rw [hn] at hK
      simp only [cond_true] at hK
      unfold wv at hK
      refine fin hK ?_
      rw [show (0 - a % 18446744073709551616 - c) % 18446744073709551616 = (-(a * 18446744073709551616 + b)) / 18446744073709551616 by omega, show (0 - b - 0) % 18446744073709551616 = (-(a * 18446744073709551616 + b)) % 18446744073709551616 by omega]

noncomputable def k2 : Know Tryd.prog := k1
end Go.Proofs.YtjlmofhokbnloaaDoor

namespace Go.Proofs.YtjlmofhokbnloaaDoor
open Go.Se
set_option maxRecDepth 100000

def cOr : List SV → List (Option SB) → Out
  | [.arr 0 0 2 2], [some (.cells t [.int .i64 a, .int .i64 b])] => some (.int .i64 (bif a != 0 then a else b), [some (.cells t [.int .i64 a, .int .i64 b])], [])
  | _, _ => none
noncomputable def k3 : Know Tryd.prog := ((((k2).add 56 (one cMul) (one_sat fun xs σ v σ' d h => by
    unfold cMul at h; split at h <;> cases h; first | exact mul_ok | exact mul_ok _ | exact mul_ok _ _ | exact mul_ok _ _ _ | exact mul_ok _ _ _ _ | exact mul_ok _ _ _ _ _ | exact mul_ok _ _ _ _ _ _ | exact mul_ok _ _ _ _ _ _ _ | exact mul_ok _ _ _ _ _ _ _ _ | exact mul_ok _ _ _ _ _ _ _ _ _ | exact mul_ok _ _ _ _ _ _ _ _ _ _ | exact mul_ok _ _ _ _ _ _ _ _ _ _ _)).add 57 (one cAdd) (one_sat fun xs σ v σ' d h => by
    unfold cAdd at h; split at h <;> cases h; first | exact add_ok | exact add_ok _ | exact add_ok _ _ | exact add_ok _ _ _ | exact add_ok _ _ _ _ | exact add_ok _ _ _ _ _ | exact add_ok _ _ _ _ _ _ | exact add_ok _ _ _ _ _ _ _ | exact add_ok _ _ _ _ _ _ _ _ | exact add_ok _ _ _ _ _ _ _ _ _ | exact add_ok _ _ _ _ _ _ _ _ _ _ | exact add_ok _ _ _ _ _ _ _ _ _ _ _)).add 59 (one cNeg) (one_sat fun xs σ v σ' d h => by
    unfold cNeg at h; split at h <;> cases h; first | exact neg_ok | exact neg_ok _ | exact neg_ok _ _ | exact neg_ok _ _ _ | exact neg_ok _ _ _ _ | exact neg_ok _ _ _ _ _ | exact neg_ok _ _ _ _ _ _ | exact neg_ok _ _ _ _ _ _ _ | exact neg_ok _ _ _ _ _ _ _ _ | exact neg_ok _ _ _ _ _ _ _ _ _ | exact neg_ok _ _ _ _ _ _ _ _ _ _ | exact neg_ok _ _ _ _ _ _ _ _ _ _ _)).add 93 (one cSized) (one_sat fun xs σ v σ' d h => by
    unfold cSized at h; split at h <;> cases h; first | exact sized_ok | exact sized_ok _ | exact sized_ok _ _ | exact sized_ok _ _ _ | exact sized_ok _ _ _ _ | exact sized_ok _ _ _ _ _ | exact sized_ok _ _ _ _ _ _ | exact sized_ok _ _ _ _ _ _ _ | exact sized_ok _ _ _ _ _ _ _ _ | exact sized_ok _ _ _ _ _ _ _ _ _ | exact sized_ok _ _ _ _ _ _ _ _ _ _ | exact sized_ok _ _ _ _ _ _ _ _ _ _ _)
noncomputable def k4 : Know Tryd.prog := k3
end Go.Proofs.YtjlmofhokbnloaaDoor

namespace Go.Proofs.YtjlmofhokbnloaaDoor
open Go.Se
set_option maxRecDepth 100000

theorem runD_ok (u : Nat) (B : Know Tryd.prog) (n : Nat) {k : FuncId} {xs : List SV} {σ : List (Option SB)} {v : SV} {σ' : List (Option SB)} {d : List Nat}
    (hl : ∀ p, p ∈ d → p < σ.length)
    (h : okL xs → okS σ → ∀ K : KC, (∀ d', (∀ p, p ∈ d' → p ∈ d) → K v σ' d') → runU u B n k xs σ K) : CallOK Tryd.prog k xs σ v σ' d :=
  callOK_of_callsD (R := []) tab B hl fun h1 h2 => h h1 h2 _ fun _ hd => ⟨rfl, rfl, hd⟩

def upX (p : Int) : Int := bif in128 (wv ((p / 18446744073709551616).fdiv 4294967296) (mulLo p) + wv (1 / 18446744073709551616) (1 % 18446744073709551616)) then wv ((p / 18446744073709551616).fdiv 4294967296) (mulLo p) + wv (1 / 18446744073709551616) (1 % 18446744073709551616) else 0
def mulP (t : TypeId) (o : Bool) (p : Int) (K : KC) : Prop :=
  Br (decide (IntKind.u32.wrap (p % 18446744073709551616) > 2147483648)) (fitP t o (upX p / 18446744073709551616) (upX p % 18446744073709551616) K)
    (Br (IntKind.u32.wrap (p % 18446744073709551616) == 2147483648)
      (Br (IntKind.u64.wrap ↑(BitVec.ofInt IntKind.u64.bits (mulLo p) &&& BitVec.ofInt IntKind.u64.bits 1).toNat == 1)
        (fitP t o (upX p / 18446744073709551616) (upX p % 18446744073709551616) K)
        (fitP t o ((p / 18446744073709551616).fdiv 4294967296) (mulLo p) K))
      (fitP t o ((p / 18446744073709551616).fdiv 4294967296) (mulLo p) K))

end Go.Proofs.YtjlmofhokbnloaaDoor

