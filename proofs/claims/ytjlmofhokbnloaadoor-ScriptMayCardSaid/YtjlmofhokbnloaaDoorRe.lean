import Derived.Test.YtjlmofhokbnloaaDoorRd
import Derived.Test.YtjlmofhokbnloaaDoorRoot
import Derived.Test.YtjlmofhokbnloaaDoorSeNum
namespace Go.Proofs.YtjlmofhokbnloaaDoor
open Go.Se
set_option maxRecDepth 100000
theorem twiceN_ok (a b c d k : Int) (hx : twiceG a b c d k = true) : CallOK Tryd.prog 100 [.agg [.int .u64 a, .int .u64 b, .int .u64 c, .int .u64 d], .int .u64 k] [] (.agg (digL (2 * dv a b c d + k))) [] [] :=
  runU_ok 5 q1 2 fun ⟨⟨ha, hb, hc, hd, _⟩, hk, _⟩ _ K hK => by
    have ha' : 0 ≤ a ∧ a ≤ 18446744073709551615 := ha
    have hb' : 0 ≤ b ∧ b ≤ 18446744073709551615 := hb
    have hc' : 0 ≤ c ∧ c ≤ 18446744073709551615 := hc
    have hd' : 0 ≤ d ∧ d ≤ 18446744073709551615 := hd
    have hk' : 0 ≤ k ∧ k ≤ 18446744073709551615 := hk
    unfold twiceG at hx
    rw [Bool.and_eq_true, dOk_iff, decide_eq_true_eq] at hx
    have E : ∀ K, runU 5 q1 2 100 [.agg [.int .u64 a, .int .u64 b, .int .u64 c, .int .u64 d], .int .u64 k] [] K =
      (fun s0 => (fun s1 => (fun s2 => (fun s3 => K (.agg [.int .u64 (s0 % 4294967296), .int .u64 (s1 % 4294967296), .int .u64 (s2 % 4294967296), .int .u64 (s3 % 4294967296)]) [] [])
        (IntKind.u64.wrap (IntKind.u64.wrap (2 * d) + IntKind.u64.wrap (s2.tdiv 4294967296)))) (IntKind.u64.wrap (IntKind.u64.wrap (2 * c) + IntKind.u64.wrap (s1.tdiv 4294967296)))) (IntKind.u64.wrap (IntKind.u64.wrap (2 * b) + IntKind.u64.wrap (s0.tdiv 4294967296))))
        (IntKind.u64.wrap (IntKind.u64.wrap (2 * a) + k)) := fun K => by kernel_rfl
    rw [E]
    show K _ _ _
    simp only [u64_tdiv]
    simp only [wu64]
    obtain ⟨⟨x1, x2, x3, x4⟩, x5⟩ := hx
    rw [show (2 * a % 18446744073709551616 + k) % 18446744073709551616 = 2 * a + k by omega]
    generalize hk0 : (2 * a + k) / 4294967296 = k0
    have r0 : 0 ≤ k0 ∧ k0 ≤ 1 := by omega
    rw [show (2 * b % 18446744073709551616 + k0 % 18446744073709551616) % 18446744073709551616 = 2 * b + k0 by omega]
    generalize hk1 : (2 * b + k0) / 4294967296 = k1
    have r1 : 0 ≤ k1 ∧ k1 ≤ 1 := by omega
    rw [show (2 * c % 18446744073709551616 + k1 % 18446744073709551616) % 18446744073709551616 = 2 * c + k1 by omega]
    generalize hk2 : (2 * c + k1) / 4294967296 = k2
    have r2 : 0 ≤ k2 ∧ k2 ≤ 1 := by omega
    rw [show (2 * d % 18446744073709551616 + k2 % 18446744073709551616) % 18446744073709551616 = 2 * d + k2 by omega]
    exact fin hK (congrArg SV.agg (dig_mod (by rw [dOk_iff]; omega) (by omega) (by omega) (by omega) (by omega) (by unfold dv; omega)))
theorem bit_run (a b c d : Int) : ∀ n : Nat, n < 128 → ∀ K, run q1 2 117 [.agg [.int .u64 a, .int .u64 b, .int .u64 c, .int .u64 d], .int .i64 (n : Int)] [] K = K (.int .u64 (bitE n a b c d)) [] []
  | 0, _, K => by kernel_rfl
  | 1, _, K => by kernel_rfl
  | 2, _, K => by kernel_rfl
  | 3, _, K => by kernel_rfl
  | 4, _, K => by kernel_rfl
  | 5, _, K => by kernel_rfl
  | 6, _, K => by kernel_rfl
  | 7, _, K => by kernel_rfl
  | 8, _, K => by kernel_rfl
  | 9, _, K => by kernel_rfl
  | 10, _, K => by kernel_rfl
  | 11, _, K => by kernel_rfl
  | 12, _, K => by kernel_rfl
  | 13, _, K => by kernel_rfl
  | 14, _, K => by kernel_rfl
  | 15, _, K => by kernel_rfl
  | 16, _, K => by kernel_rfl
  | 17, _, K => by kernel_rfl
  | 18, _, K => by kernel_rfl
  | 19, _, K => by kernel_rfl
  | 20, _, K => by kernel_rfl
  | 21, _, K => by kernel_rfl
  | 22, _, K => by kernel_rfl
  | 23, _, K => by kernel_rfl
  | 24, _, K => by kernel_rfl
  | 25, _, K => by kernel_rfl
  | 26, _, K => by kernel_rfl
  | 27, _, K => by kernel_rfl
  | 28, _, K => by kernel_rfl
  | 29, _, K => by kernel_rfl
  | 30, _, K => by kernel_rfl
  | 31, _, K => by kernel_rfl
  | 32, _, K => by kernel_rfl
  | 33, _, K => by kernel_rfl
  | 34, _, K => by kernel_rfl
  | 35, _, K => by kernel_rfl
  | 36, _, K => by kernel_rfl
  | 37, _, K => by kernel_rfl
  | 38, _, K => by kernel_rfl
  | 39, _, K => by kernel_rfl
  | 40, _, K => by kernel_rfl
  | 41, _, K => by kernel_rfl
  | 42, _, K => by kernel_rfl
  | 43, _, K => by kernel_rfl
  | 44, _, K => by kernel_rfl
  | 45, _, K => by kernel_rfl
  | 46, _, K => by kernel_rfl
  | 47, _, K => by kernel_rfl
  | 48, _, K => by kernel_rfl
  | 49, _, K => by kernel_rfl
  | 50, _, K => by kernel_rfl
  | 51, _, K => by kernel_rfl
  | 52, _, K => by kernel_rfl
  | 53, _, K => by kernel_rfl
  | 54, _, K => by kernel_rfl
  | 55, _, K => by kernel_rfl
  | 56, _, K => by kernel_rfl
  | 57, _, K => by kernel_rfl
  | 58, _, K => by kernel_rfl
  | 59, _, K => by kernel_rfl
  | 60, _, K => by kernel_rfl
  | 61, _, K => by kernel_rfl
  | 62, _, K => by kernel_rfl
  | 63, _, K => by kernel_rfl
  | 64, _, K => by kernel_rfl
  | 65, _, K => by kernel_rfl
  | 66, _, K => by kernel_rfl
  | 67, _, K => by kernel_rfl
  | 68, _, K => by kernel_rfl
  | 69, _, K => by kernel_rfl
  | 70, _, K => by kernel_rfl
  | 71, _, K => by kernel_rfl
  | 72, _, K => by kernel_rfl
  | 73, _, K => by kernel_rfl
  | 74, _, K => by kernel_rfl
  | 75, _, K => by kernel_rfl
  | 76, _, K => by kernel_rfl
  | 77, _, K => by kernel_rfl
  | 78, _, K => by kernel_rfl
  | 79, _, K => by kernel_rfl
  | 80, _, K => by kernel_rfl
  | 81, _, K => by kernel_rfl
  | 82, _, K => by kernel_rfl
  | 83, _, K => by kernel_rfl
  | 84, _, K => by kernel_rfl
  | 85, _, K => by kernel_rfl
  | 86, _, K => by kernel_rfl
  | 87, _, K => by kernel_rfl
  | 88, _, K => by kernel_rfl
  | 89, _, K => by kernel_rfl
  | 90, _, K => by kernel_rfl
  | 91, _, K => by kernel_rfl
  | 92, _, K => by kernel_rfl
  | 93, _, K => by kernel_rfl
  | 94, _, K => by kernel_rfl
  | 95, _, K => by kernel_rfl
  | 96, _, K => by kernel_rfl
  | 97, _, K => by kernel_rfl
  | 98, _, K => by kernel_rfl
  | 99, _, K => by kernel_rfl
  | 100, _, K => by kernel_rfl
  | 101, _, K => by kernel_rfl
  | 102, _, K => by kernel_rfl
  | 103, _, K => by kernel_rfl
  | 104, _, K => by kernel_rfl
  | 105, _, K => by kernel_rfl
  | 106, _, K => by kernel_rfl
  | 107, _, K => by kernel_rfl
  | 108, _, K => by kernel_rfl
  | 109, _, K => by kernel_rfl
  | 110, _, K => by kernel_rfl
  | 111, _, K => by kernel_rfl
  | 112, _, K => by kernel_rfl
  | 113, _, K => by kernel_rfl
  | 114, _, K => by kernel_rfl
  | 115, _, K => by kernel_rfl
  | 116, _, K => by kernel_rfl
  | 117, _, K => by kernel_rfl
  | 118, _, K => by kernel_rfl
  | 119, _, K => by kernel_rfl
  | 120, _, K => by kernel_rfl
  | 121, _, K => by kernel_rfl
  | 122, _, K => by kernel_rfl
  | 123, _, K => by kernel_rfl
  | 124, _, K => by kernel_rfl
  | 125, _, K => by kernel_rfl
  | 126, _, K => by kernel_rfl
  | 127, _, K => by kernel_rfl
  | n + 128, h, _ => absurd h (by omega)
theorem bitN_ok (a b c d i : Int) (hx : bitG a b c d i = true) : CallOK Tryd.prog 117 [.agg [.int .u64 a, .int .u64 b, .int .u64 c, .int .u64 d], .int .i64 i] [] (.int .u64 (bitV (dv a b c d) i)) [] [] := by
  unfold bitG at hx
  simp only [Bool.and_eq_true, dOk_iff, decide_eq_true_eq] at hx
  obtain ⟨⟨x1, x2, x3, x4⟩, x5, x6⟩ := hx
  obtain ⟨n, rfl⟩ := Int.eq_ofNat_of_zero_le x5
  refine run_ok q1 2 fun ⟨⟨ha, hb, hc, hd, _⟩, _⟩ _ K hK => ?_
  have ha' : 0 ≤ a ∧ a ≤ 18446744073709551615 := ha
  have hb' : 0 ≤ b ∧ b ≤ 18446744073709551615 := hb
  have hc' : 0 ≤ c ∧ c ≤ 18446744073709551615 := hc
  have hd' : 0 ≤ d ∧ d ≤ 18446744073709551615 := hd
  rw [bit_run a b c d n (by omega)]
  refine fin hK (congrArg (SV.int .u64) ?_)
  rw [bitE_eq (X := dv a b c d) ⟨ha'.1, x1, hb'.1, x2, hc'.1, x3, hd'.1, x4, rfl⟩ (by omega)]
  rfl
noncomputable def q4 : Know Tryd.prog := ((q3).add 100 (oneIf cTwiceN) (oneIf_sat fun xs σ v σ' d h => by
    unfold cTwiceN at h; split at h
    · simp only [Option.some.injEq, Prod.mk.injEq] at h
      obtain ⟨h1, rfl, rfl, rfl⟩ := h
      first | exact twiceN_ok h1 | exact twiceN_ok _ h1 | exact twiceN_ok _ _ h1 | exact twiceN_ok _ _ _ h1 | exact twiceN_ok _ _ _ _ h1 | exact twiceN_ok _ _ _ _ _ h1 | exact twiceN_ok _ _ _ _ _ _ h1 | exact twiceN_ok _ _ _ _ _ _ _ h1 | exact twiceN_ok _ _ _ _ _ _ _ _ h1 | exact twiceN_ok _ _ _ _ _ _ _ _ _ h1 | exact twiceN_ok _ _ _ _ _ _ _ _ _ _ h1 | exact twiceN_ok _ _ _ _ _ _ _ _ _ _ _ h1 | exact twiceN_ok _ _ _ _ _ _ _ _ _ _ _ _ h1 | exact twiceN_ok (of_decide_eq_true h1) | exact twiceN_ok _ (of_decide_eq_true h1) | exact twiceN_ok _ _ (of_decide_eq_true h1) | exact twiceN_ok _ _ _ (of_decide_eq_true h1) | exact twiceN_ok _ _ _ _ (of_decide_eq_true h1) | exact twiceN_ok _ _ _ _ _ (of_decide_eq_true h1) | exact twiceN_ok _ _ _ _ _ _ (of_decide_eq_true h1) | exact twiceN_ok _ _ _ _ _ _ _ (of_decide_eq_true h1) | exact twiceN_ok _ _ _ _ _ _ _ _ (of_decide_eq_true h1) | exact twiceN_ok _ _ _ _ _ _ _ _ _ (of_decide_eq_true h1) | exact twiceN_ok _ _ _ _ _ _ _ _ _ _ (of_decide_eq_true h1) | exact twiceN_ok _ _ _ _ _ _ _ _ _ _ _ (of_decide_eq_true h1) | exact twiceN_ok _ _ _ _ _ _ _ _ _ _ _ _ (of_decide_eq_true h1)
    · cases h)).add 117 (oneIf cBitN) (oneIf_sat fun xs σ v σ' d h => by
    unfold cBitN at h; split at h
    · simp only [Option.some.injEq, Prod.mk.injEq] at h
      obtain ⟨h1, rfl, rfl, rfl⟩ := h
      first | exact bitN_ok h1 | exact bitN_ok _ h1 | exact bitN_ok _ _ h1 | exact bitN_ok _ _ _ h1 | exact bitN_ok _ _ _ _ h1 | exact bitN_ok _ _ _ _ _ h1 | exact bitN_ok _ _ _ _ _ _ h1 | exact bitN_ok _ _ _ _ _ _ _ h1 | exact bitN_ok _ _ _ _ _ _ _ _ h1 | exact bitN_ok _ _ _ _ _ _ _ _ _ h1 | exact bitN_ok _ _ _ _ _ _ _ _ _ _ h1 | exact bitN_ok _ _ _ _ _ _ _ _ _ _ _ h1 | exact bitN_ok _ _ _ _ _ _ _ _ _ _ _ _ h1 | exact bitN_ok (of_decide_eq_true h1) | exact bitN_ok _ (of_decide_eq_true h1) | exact bitN_ok _ _ (of_decide_eq_true h1) | exact bitN_ok _ _ _ (of_decide_eq_true h1) | exact bitN_ok _ _ _ _ (of_decide_eq_true h1) | exact bitN_ok _ _ _ _ _ (of_decide_eq_true h1) | exact bitN_ok _ _ _ _ _ _ (of_decide_eq_true h1) | exact bitN_ok _ _ _ _ _ _ _ (of_decide_eq_true h1) | exact bitN_ok _ _ _ _ _ _ _ _ (of_decide_eq_true h1) | exact bitN_ok _ _ _ _ _ _ _ _ _ (of_decide_eq_true h1) | exact bitN_ok _ _ _ _ _ _ _ _ _ _ (of_decide_eq_true h1) | exact bitN_ok _ _ _ _ _ _ _ _ _ _ _ (of_decide_eq_true h1) | exact bitN_ok _ _ _ _ _ _ _ _ _ _ _ _ (of_decide_eq_true h1)
    · cases h)
end Go.Proofs.YtjlmofhokbnloaaDoor

namespace Go.Proofs.YtjlmofhokbnloaaDoor
open Go.Se
set_option maxRecDepth 100000
abbrev sixT : TypeId := 94
def overR : List (Nat × Keep) := [(0, ⟨[8, 2, 3, 4, 5, 6, 7], [0, 1, 2, 3, 4, 5], [4, 5], 6, []⟩)]
def d4 (a b c d : Int) : List SV := [.int .u64 a, .int .u64 b, .int .u64 c, .int .u64 d]
def overS (A B Q R : List SV) (i : Int) : St :=
  ⟨[(8, .int .i64 i), (2, .ptr 0 0), (3, .ptr 1 0), (4, .ptr 2 0), (5, .ptr 3 0), (6, .ptr 4 0), (7, .ptr 5 0)],
    [(0, some (.cells sixT A)), (1, some (.cells sixT B)), (2, some (.cells sixT (d4 0 0 0 0))), (3, some (.cells sixT (d4 0 0 0 0))), (4, some (.cells sixT Q)), (5, some (.cells sixT R))], 6, [4, 5], 33⟩
abbrev overPath : List Nat := [1, 1, 0, 1, 0]
noncomputable abbrev overEn : Env := envL overR (fun _ => 0) q4 1
theorem over_entry (K : KC) (a b c d e f g h : Int) : runL overR (fun _ => 0) q4 2 99 [.agg [.int .u64 a, .int .u64 b, .int .u64 c, .int .u64 d], .agg [.int .u64 e, .int .u64 f, .int .u64 g, .int .u64 h]] [] K =
    ∃ n, loopE overEn (keepW overR 0) Tryd.f99 overPath 0 0 K n (overS (d4 a b c d) (d4 e f g h) (d4 0 0 0 0) (d4 0 0 0 0) 127) := by kernel_rfl
def digX (X : Int) : List SV := d4 (X % 4294967296) (X / 4294967296 % 4294967296) (X / 18446744073709551616 % 4294967296) (X / 79228162514264337593543950336 % 4294967296)
def digY (X : Int) : List SV := d4 (IntKind.u64.wrap (X % 4294967296 + 1)) (X / 4294967296 % 4294967296) (X / 18446744073709551616 % 4294967296) (X / 79228162514264337593543950336 % 4294967296)
theorem over_round (K : Ex → St → Prop) (a b c d e f g h q0 q1 q2 q3 r0 r1 r2 r3 i : Int) : roundE overEn (keepW overR 0) Tryd.f99 overPath 0 K (overS (d4 a b c d) (d4 e f g h) (d4 q0 q1 q2 q3) (d4 r0 r1 r2 r3) i) =
    Br (decide (i ≥ 0)) (If (bitG a b c d i) (If (twiceG r0 r1 r2 r3 (bitV (dv a b c d) i)) (If (twiceG q0 q1 q2 q3 0) ((fun Q R => If (dOkD R && dOk e f g h)
      (Br (!decide (dvS R < dv e f g h)) (If (dOkD R && dOk e f g h && decide (dv e f g h ≤ dvS R)) (K .normal (overS (d4 a b c d) (d4 e f g h) (digY Q) (digX (dvS R - dv e f g h)) (IntKind.i64.wrap (i - 1)))))
        (K .normal (overS (d4 a b c d) (d4 e f g h) (digX Q) (digX R) (IntKind.i64.wrap (i - 1)))))) (2 * dv q0 q1 q2 q3 + 0) (2 * dv r0 r1 r2 r3 + bitV (dv a b c d) i)))))
      (K (.exit 0) (overS (d4 a b c d) (d4 e f g h) (d4 q0 q1 q2 q3) (d4 r0 r1 r2 r3) i)) := by kernel_rfl
theorem over_after (K : KC) (a b c d e f g h q0 q1 q2 q3 r0 r1 r2 r3 i : Int) : afterE overEn (keepW overR 0) Tryd.f99 overPath 0 K (.exit 0) (overS (d4 a b c d) (d4 e f g h) (d4 q0 q1 q2 q3) (d4 r0 r1 r2 r3) i) =
    K (.tup [.agg (d4 q0 q1 q2 q3), .agg (d4 r0 r1 r2 r3)]) [] [] := by kernel_rfl
theorem digY_eq (Q : Int) : digY (2 * Q + 0) = digX (2 * Q + 1) := by
  unfold digY digX
  rw [wu64, show (((2 * Q + 0) % 4294967296 + 1) % 18446744073709551616 : Int) = (2 * Q + 1) % 4294967296 by omega, show ((2 * Q + 0) / 4294967296 : Int) = (2 * Q + 1) / 4294967296 by omega, show ((2 * Q + 0) / 18446744073709551616 : Int) = (2 * Q + 1) / 18446744073709551616 by omega,
    show ((2 * Q + 0) / 79228162514264337593543950336 : Int) = (2 * Q + 1) / 79228162514264337593543950336 by omega]
theorem over_loop (K : KC) {a b c d e f g h A B : Int} (hA : Is4 A a b c d) (hB : Is4 B e f g h) (hB0 : 0 < B) (hB1 : B < 170141183460469231731687303715884105728) (hK : K (.tup [.agg (digX (A / B)), .agg (digX (A % B))]) [] []) : ∀ (n : Nat), n ≤ 128 →
    loopE overEn (keepW overR 0) Tryd.f99 overPath 0 0 K (n + 1) (overS (d4 a b c d) (d4 e f g h) (digX (A / 2 ^ n / B)) (digX (A / 2 ^ n % B)) ((n : Int) - 1))
  | 0, _ => by
    rw [loopE_succ, digX, digX, over_round]
    refine Br.of (fun c => absurd (of_decide_eq_true c) (by decide)) fun _ => ?_
    show afterE _ _ _ _ _ _ _ _
    rw [over_after, show A / 2 ^ 0 = A by simp]
    exact hK
  | n + 1, hn => by
    have hA0 : 0 ≤ A := by rw [← hA.eq]; have := hA.a0; have := hA.b0; have := hA.c0; have := hA.d0; unfold dv; omega
    have hA1 : A < 340282366920938463463374607431768211456 := by rw [← hA.eq]; have := hA.a1; have := hA.b1; have := hA.c1; have := hA.d1; unfold dv; omega
    obtain ⟨Q, R, k, eQ, eR, ek, q0, r0, r1, k0, k1, hlo, hhi⟩ := over_step (n := n) hA0 hB0
    have hQ1 : Q ≤ A := by
      rw [eQ]
      exact Int.le_trans (Int.ediv_le_self _ (Int.ediv_nonneg hA0 (Int.le_of_lt (Int.pow_pos (by decide))))) (Int.ediv_le_self _ hA0)
    have hQ2 : 2 * Q + 1 ≤ A ∨ A / 2 ^ n / B = 2 * Q := by
      by_cases hlt : 2 * R + k < B
      · exact .inr (hlo hlt).1
      · refine .inl ?_
        rw [← (hhi (by omega)).1]
        exact Int.le_trans (Int.ediv_le_self _ (Int.ediv_nonneg hA0 (Int.le_of_lt (Int.pow_pos (by decide))))) (Int.ediv_le_self _ hA0)
    rw [loopE_succ, ← eQ, ← eR, digX, digX, over_round, show (((n + 1 : Nat) : Int) - 1) = (n : Int) by omega]
    have hbit : bitV (dv a b c d) n = k := by rw [hA.eq, ek]; rfl
    rw [hbit]
    have hR2 : 2 * R + k < 340282366920938463463374607431768211456 := by omega
    have hdR : dv (R % 4294967296) (R / 4294967296 % 4294967296) (R / 18446744073709551616 % 4294967296) (R / 79228162514264337593543950336 % 4294967296) = R := dv_dig r0 (by omega)
    have hdQ : dv (Q % 4294967296) (Q / 4294967296 % 4294967296) (Q / 18446744073709551616 % 4294967296) (Q / 79228162514264337593543950336 % 4294967296) = Q := dv_dig q0 (by omega)
    have hokB : dOk e f g h = true := dOk_iff.2 ⟨hB.a1, hB.b1, hB.c1, hB.d1⟩
    have hokA : dOk a b c d = true := dOk_iff.2 ⟨hA.a1, hA.b1, hA.c1, hA.d1⟩
    rw [hdR, hdQ]
    have hw : IntKind.i64.wrap ((n : Int) - 1) = (n : Int) - 1 := by rw [wi64]; omega
    refine Br.of (fun _ => If.mk ?_ (If.mk ?_ (If.mk ?_ ?_))) fun c => absurd (of_decide_eq_false c) (by omega)
    · unfold bitG; rw [hokA]; simp only [Bool.true_and, Bool.and_eq_true, decide_eq_true_eq]; omega
    · unfold twiceG; rw [dOk_dig]; simpa using k1
    · unfold twiceG; rw [dOk_dig]; rfl
    · show If _ _
      rw [dOkD_eq, hokB, dvS_eq (by omega) hR2, hB.eq, hw]
      refine If.mk rfl (Br.of (fun c => If.mk ?_ ?_) fun c => ?_)
      · have : ¬ 2 * R + k < B := by simpa using c
        simpa using (by omega : B ≤ 2 * R + k)
      · have : ¬ 2 * R + k < B := by simpa using c
        have := hhi (by omega)
        rw [digY_eq, ← this.1, ← this.2]
        exact over_loop K hA hB hB0 hB1 hK n (by omega)
      · have : 2 * R + k < B := by simpa using c
        have := hlo this
        rw [Int.add_zero, ← this.1, ← this.2]
        exact over_loop K hA hB hB0 hB1 hK n (by omega)
theorem overN_ok (a b c d e f g h : Int) (hx : overG a b c d e f g h = true) : CallOK Tryd.prog 99 [.agg [.int .u64 a, .int .u64 b, .int .u64 c, .int .u64 d], .agg [.int .u64 e, .int .u64 f, .int .u64 g, .int .u64 h]] []
    (.tup [.agg (digL (dv a b c d / dv e f g h)), .agg (digL (dv a b c d % dv e f g h))]) [] [] :=
  runL_ok overR (fun _ => 0) q4 2 (fun _ h => nomatch h) fun ⟨⟨ha, hb, hc, hd, _⟩, ⟨he, hf, hg, hh, _⟩, _⟩ _ K hK => by
    have ha' : 0 ≤ a ∧ a ≤ 18446744073709551615 := ha
    have hb' : 0 ≤ b ∧ b ≤ 18446744073709551615 := hb
    have hc' : 0 ≤ c ∧ c ≤ 18446744073709551615 := hc
    have hd' : 0 ≤ d ∧ d ≤ 18446744073709551615 := hd
    have he' : 0 ≤ e ∧ e ≤ 18446744073709551615 := he
    have hf' : 0 ≤ f ∧ f ≤ 18446744073709551615 := hf
    have hg' : 0 ≤ g ∧ g ≤ 18446744073709551615 := hg
    have hh' : 0 ≤ h ∧ h ≤ 18446744073709551615 := hh
    have hK := hK [] fun _ h => nomatch h
    unfold overG at hx
    simp only [Bool.and_eq_true, dOk_iff, decide_eq_true_eq] at hx
    obtain ⟨⟨⟨x1, x2, x3, x4⟩, y1, y2, y3, y4⟩, z1, z2⟩ := hx
    rw [over_entry]
    refine ⟨129, ?_⟩
    have := over_loop K (A := dv a b c d) (B := dv e f g h) ⟨ha'.1, x1, hb'.1, x2, hc'.1, x3, hd'.1, x4, rfl⟩ ⟨he'.1, y1, hf'.1, y2, hg'.1, y3, hh'.1, y4, rfl⟩ z1 z2 hK 128 (Nat.le_refl _)
    have hz : dv a b c d / 2 ^ 128 = 0 := by
      refine Int.ediv_eq_zero_of_lt (by unfold dv; omega) ?_
      show dv a b c d < 340282366920938463463374607431768211456
      unfold dv; omega
    rw [hz, Int.zero_ediv, Int.zero_emod] at this
    exact this

def rooR : List (Nat × Keep) := [(0, ⟨[3, 4, 1, 2], [0], [], 1, []⟩)]
def rooS (s : Bool) (A : List SV) (n i : Int) : St := ⟨[(3, .int .u64 n), (4, .int .i64 i), (1, .ptr 0 0), (2, .int .u64 0)], [(0, some (.cells 96 (.bool s :: A)))], 1, [], 26⟩
abbrev rooPath : List Nat := [1, 1, 1, 0, 1, 0]
noncomputable abbrev rooE : Env := envL rooR (fun _ => 0) q4 1
def upN (n i : Int) : Int := IntKind.u64.wrap (n + IntKind.u64.wrap (1 * 2 ^ min (IntKind.u64.wrap i).toNat IntKind.u64.bits))
noncomputable def q5 : Know Tryd.prog := (q4).add 99 (oneIf cOverN) (oneIf_sat fun xs σ v σ' d h => by
    unfold cOverN at h; split at h
    · simp only [Option.some.injEq, Prod.mk.injEq] at h
      obtain ⟨h1, rfl, rfl, rfl⟩ := h
      first | exact overN_ok h1 | exact overN_ok _ h1 | exact overN_ok _ _ h1 | exact overN_ok _ _ _ h1 | exact overN_ok _ _ _ _ h1 | exact overN_ok _ _ _ _ _ h1 | exact overN_ok _ _ _ _ _ _ h1 | exact overN_ok _ _ _ _ _ _ _ h1 | exact overN_ok _ _ _ _ _ _ _ _ h1 | exact overN_ok _ _ _ _ _ _ _ _ _ h1 | exact overN_ok _ _ _ _ _ _ _ _ _ _ h1 | exact overN_ok _ _ _ _ _ _ _ _ _ _ _ h1 | exact overN_ok _ _ _ _ _ _ _ _ _ _ _ _ h1 | exact overN_ok (of_decide_eq_true h1) | exact overN_ok _ (of_decide_eq_true h1) | exact overN_ok _ _ (of_decide_eq_true h1) | exact overN_ok _ _ _ (of_decide_eq_true h1) | exact overN_ok _ _ _ _ (of_decide_eq_true h1) | exact overN_ok _ _ _ _ _ (of_decide_eq_true h1) | exact overN_ok _ _ _ _ _ _ (of_decide_eq_true h1) | exact overN_ok _ _ _ _ _ _ _ (of_decide_eq_true h1) | exact overN_ok _ _ _ _ _ _ _ _ (of_decide_eq_true h1) | exact overN_ok _ _ _ _ _ _ _ _ _ (of_decide_eq_true h1) | exact overN_ok _ _ _ _ _ _ _ _ _ _ (of_decide_eq_true h1) | exact overN_ok _ _ _ _ _ _ _ _ _ _ _ (of_decide_eq_true h1) | exact overN_ok _ _ _ _ _ _ _ _ _ _ _ _ (of_decide_eq_true h1)
    · cases h)
end Go.Proofs.YtjlmofhokbnloaaDoor

namespace Go.Proofs.YtjlmofhokbnloaaDoor
open Go.Se
set_option maxRecDepth 100000
theorem divN_entry (s : Bool) (a b c d e : Int) (K : KC) : run q5 2 62 [.agg [.bool s, .int .u64 a, .int .u64 b, .int .u64 c, .int .u64 d], .int .i64 e] [] K =
    Br (e == 0) (dvNo K) (divX s (decide (e < 0)) a b c d (absI e) K) := by kernel_rfl
theorem divN_ok (s : Bool) (a b c d e : Int) (hx : dOk a b c d = true) : CallOK Tryd.prog 62 [.agg [.bool s, .int .u64 a, .int .u64 b, .int .u64 c, .int .u64 d], .int .i64 e] []
    (.tup [.int .i64 (divV (nv s a b c d) e), .bool (divGood (nv s a b c d) e)]) [] [] :=
  run_ok q5 2 fun ⟨⟨_, ha, hb, hc, hd, _⟩, he, _⟩ _ K hK => by
    have ha' : 0 ≤ a ∧ a ≤ 18446744073709551615 := ha
    have hb' : 0 ≤ b ∧ b ≤ 18446744073709551615 := hb
    have hc' : 0 ≤ c ∧ c ≤ 18446744073709551615 := hc
    have hd' : 0 ≤ d ∧ d ≤ 18446744073709551615 := hd
    have he' : -9223372036854775808 ≤ e ∧ e ≤ 9223372036854775807 := he
    rw [dOk_iff] at hx
    rw [divN_entry]
    have h4 : Is4 (dv a b c d) a b c d := ⟨ha'.1, hx.1, hb'.1, hx.2.1, hc'.1, hx.2.2.1, hd'.1, hx.2.2.2, rfl⟩
    have h0 : 0 ≤ dv a b c d := by unfold dv; omega
    have hn : (s = true ∧ nv s a b c d = -dv a b c d) ∨ (s = false ∧ nv s a b c d = dv a b c d) := by cases s <;> simp [nv]
    generalize nv s a b c d = x at *
    generalize dv a b c d = A at *
    have hax : absI x = A := by
      unfold absI
      by_cases h : x < 0
      · rw [decide_eq_true h]; simp only [cond_true]; omega
      · rw [decide_eq_false h]; simp only [cond_false]; omega
    have hlt := absI_lt (x := e) (B := 9223372036854775809) (by omega) (by omega)
    have hge := absI_nonneg e
    refine Br.of (fun h => ?_) fun h => ?_
    · have : e = 0 := by simpa using h
      subst this
      exact hK
    · have hne : e ≠ 0 := by simpa using h
      have hpos : 0 < absI e := by
        unfold absI
        by_cases h : e < 0
        · rw [decide_eq_true h]; simp only [cond_true]; omega
        · rw [decide_eq_false h]; simp only [cond_false]; omega
      refine divX_law h4 hpos (by omega) (v := divN x e) ?_ ?_
      · unfold divN
        rw [hax]
        by_cases hz : A = 0
        · have hr : rneQ A (absI e) = 0 := by
            subst hz; unfold rneQ; rw [Int.zero_emod, Int.zero_ediv]
            show (bif (_ && decide ((0 : Int) > 0)) then _ else _) = _
            rw [show decide ((0 : Int) > 0) = false from rfl, Bool.and_false]; rfl
          rw [hr]
          cases decide (x < 0) != decide (e < 0) <;> cases !(s == decide (e < 0)) <;> rfl
        · have : decide (x < 0) = s := by
            rcases hn with ⟨rfl, hn⟩ | ⟨rfl, hn⟩
            · exact decide_eq_true (by omega)
            · exact decide_eq_false (by omega)
          rw [this]; rfl
      · unfold divV divGood at hK
        rw [show (e != 0 && in64 (divN x e)) = in64 (divN x e) by rw [bne_iff_ne.2 hne]; rfl] at hK
        exact hK
noncomputable def q6 : Know Tryd.prog := (q5).add 62 (oneIf cDivN) (oneIf_sat fun xs σ v σ' d h => by
    unfold cDivN at h; split at h
    · simp only [Option.some.injEq, Prod.mk.injEq] at h
      obtain ⟨h1, rfl, rfl, rfl⟩ := h
      first | exact divN_ok h1 | exact divN_ok _ h1 | exact divN_ok _ _ h1 | exact divN_ok _ _ _ h1 | exact divN_ok _ _ _ _ h1 | exact divN_ok _ _ _ _ _ h1 | exact divN_ok _ _ _ _ _ _ h1 | exact divN_ok _ _ _ _ _ _ _ h1 | exact divN_ok _ _ _ _ _ _ _ _ h1 | exact divN_ok _ _ _ _ _ _ _ _ _ h1 | exact divN_ok _ _ _ _ _ _ _ _ _ _ h1 | exact divN_ok _ _ _ _ _ _ _ _ _ _ _ h1 | exact divN_ok _ _ _ _ _ _ _ _ _ _ _ _ h1 | exact divN_ok (of_decide_eq_true h1) | exact divN_ok _ (of_decide_eq_true h1) | exact divN_ok _ _ (of_decide_eq_true h1) | exact divN_ok _ _ _ (of_decide_eq_true h1) | exact divN_ok _ _ _ _ (of_decide_eq_true h1) | exact divN_ok _ _ _ _ _ (of_decide_eq_true h1) | exact divN_ok _ _ _ _ _ _ (of_decide_eq_true h1) | exact divN_ok _ _ _ _ _ _ _ (of_decide_eq_true h1) | exact divN_ok _ _ _ _ _ _ _ _ (of_decide_eq_true h1) | exact divN_ok _ _ _ _ _ _ _ _ _ (of_decide_eq_true h1) | exact divN_ok _ _ _ _ _ _ _ _ _ _ (of_decide_eq_true h1) | exact divN_ok _ _ _ _ _ _ _ _ _ _ _ (of_decide_eq_true h1) | exact divN_ok _ _ _ _ _ _ _ _ _ _ _ _ (of_decide_eq_true h1)
    · cases h)
end Go.Proofs.YtjlmofhokbnloaaDoor

