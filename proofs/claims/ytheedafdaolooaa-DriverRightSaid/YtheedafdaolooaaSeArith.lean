/- Part 19: the plain arithmetic of words, and of numbers of two words. -/
import Derived.Test.YtheedafdaolooaaSeKnow
import Derived.Laws.BitsLemmas
namespace Go.Se

theorem wu64 (n : Int) : IntKind.u64.wrap n = n % 18446744073709551616 := by simp [IntKind.wrap, IntKind.bits, IntKind.signed]
theorem wu32 (n : Int) : IntKind.u32.wrap n = n % 4294967296 := by simp [IntKind.wrap, IntKind.bits, IntKind.signed]
theorem wu16 (n : Int) : IntKind.u16.wrap n = n % 65536 := by simp [IntKind.wrap, IntKind.bits, IntKind.signed]
theorem wu8 (n : Int) : IntKind.u8.wrap n = n % 256 := by simp [IntKind.wrap, IntKind.bits, IntKind.signed]
theorem wi64 (n : Int) : IntKind.i64.wrap n = (n + 9223372036854775808) % 18446744073709551616 - 9223372036854775808 := IntKind.wrap_i64 n
theorem wi32 (n : Int) : IntKind.i32.wrap n = (n + 2147483648) % 4294967296 - 2147483648 := IntKind.wrap_i32 n

theorem fdiv_pos (a : Int) {b : Int} (h : 0 ≤ b) : a.fdiv b = a / b := Int.fdiv_eq_ediv_of_nonneg a h

theorem Br.of {c : Bool} {A B : Prop} (t : c = true → A) (f : c = false → B) : Br c A B := Br.mk t f

theorem and_m32 (a : Int) (ha : 0 ≤ a) (ha' : a ≤ 18446744073709551615) : (((BitVec.ofInt 64 a &&& BitVec.ofInt 64 4294967295).toNat : Nat) : Int) = a % 4294967296 := by
  have h : (BitVec.ofInt 64 4294967295) = BitVec.ofNat 64 (2^32 - 1) := by decide
  obtain ⟨n, rfl⟩ := Int.eq_ofNat_of_zero_le ha
  have hn : n < 2^64 := by omega
  rw [h, BitVec.toNat_and]
  have h1 : (BitVec.ofInt 64 (n : Int)).toNat = n := by
    simp [BitVec.toNat_ofInt]
    omega
  have h2 : (BitVec.ofNat 64 (2^32 - 1)).toNat = 2^32 - 1 := by decide
  rw [h1, h2, Nat.and_two_pow_sub_one_eq_mod]
  omega

/-- The number of two words. -/
def wv (hi lo : Int) : Int := hi * 18446744073709551616 + lo
def wideSV (x : Int) : SV := .agg [.int .i64 (x / 18446744073709551616), .int .u64 (x % 18446744073709551616)]
def in128 (x : Int) : Bool := decide (-170141183460469231731687303715884105728 ≤ x) && decide (x < 170141183460469231731687303715884105728)
def cmpI (x y : Int) : Int := bif decide (x < y) then -1 else bif decide (y < x) then 1 else 0
def absI (x : Int) : Int := bif decide (x < 0) then -x else x

def cMul64 : List SV → List (Option SB) → Out
  | [.int .u64 a, .int .u64 b], [] => some (.tup [.int .u64 (a * b / 18446744073709551616), .int .u64 (a * b % 18446744073709551616)], [], [])
  | _, _ => none
def cOf : List SV → List (Option SB) → Out
  | [.int .i64 a], [] => some (wideSV a, [], [])
  | _, _ => none
def cMul : List SV → List (Option SB) → Out
  | [.int .i64 a, .int .i64 b], [] => some (wideSV (a * b), [], [])
  | _, _ => none
def cAdd : List SV → List (Option SB) → Out
  | [.agg [.int .i64 a, .int .u64 b], .agg [.int .i64 c, .int .u64 d]], [] =>
    some (.tup [wideSV (bif in128 (wv a b + wv c d) then wv a b + wv c d else 0), .bool (in128 (wv a b + wv c d))], [], [])
  | _, _ => none
def cNeg : List SV → List (Option SB) → Out
  | [.agg [.int .i64 a, .int .u64 b]], [] => some (.tup [wideSV (bif in128 (-wv a b) then -wv a b else 0), .bool (in128 (-wv a b))], [], [])
  | _, _ => none
def cCmp : List SV → List (Option SB) → Out
  | [.agg [.int .i64 a, .int .u64 b], .agg [.int .i64 c, .int .u64 d]], [] => some (.int .i64 (cmpI (wv a b) (wv c d)), [], [])
  | _, _ => none
def cSized : List SV → List (Option SB) → Out
  | [.agg [.int .i64 a, .int .u64 b]], [] =>
    some (.tup [.agg [.int .u64 (absI (wv a b) / 18446744073709551616), .int .u64 (absI (wv a b) % 18446744073709551616)], .bool (decide (wv a b < 0))], [], [])
  | _, _ => none
def cBelow : List SV → List (Option SB) → Out
  | [.agg [.int .u64 a, .int .u64 b], .agg [.int .u64 c, .int .u64 d]], [] => some (.bool (decide (wv a b < wv c d)), [], [])
  | _, _ => none
def cCompare (k : IntKind) : List SV → List (Option SB) → Out
  | [.int j a, .int l b], [] => bif decide (j = k) && decide (l = k) then some (.int .i64 (cmpI a b), [], []) else none
  | _, _ => none

theorem wide_eq {hi lo x : Int} (h : hi * 18446744073709551616 + lo = x) (h0 : 0 ≤ lo) (h1 : lo < 18446744073709551616) :
    (SV.agg [.int .i64 hi, .int .u64 lo]) = wideSV x := by
  unfold wideSV
  rw [show hi = x / 18446744073709551616 by omega, show lo = x % 18446744073709551616 by omega]

theorem wv_wide (x : Int) : wv (x / 18446744073709551616) (x % 18446744073709551616) = x := by unfold wv; omega

/-- The upper word of a product, by halves. -/
theorem mul_hi {a b : Int} (ha : 0 ≤ a) (ha' : a ≤ 18446744073709551615) (hb : 0 ≤ b) (hb' : b ≤ 18446744073709551615)
    {p q r s : Int} (hp : p = a / 4294967296 * (b / 4294967296)) (hq : q = a / 4294967296 * (b % 4294967296)) (hr : r = a % 4294967296 * (b / 4294967296)) (hs : s = a % 4294967296 * (b % 4294967296)) :
    a * b = p * 18446744073709551616 + (q + r) * 4294967296 + s ∧ 0 ≤ p ∧ p ≤ 4294967295 * 4294967295 ∧ 0 ≤ q ∧ q ≤ 4294967295 * 4294967295 ∧ 0 ≤ r ∧ r ≤ 4294967295 * 4294967295 ∧ 0 ≤ s ∧ s ≤ 4294967295 * 4294967295 := by
  have hA : a = a / 4294967296 * 4294967296 + a % 4294967296 := by omega
  have hB : b = b / 4294967296 * 4294967296 + b % 4294967296 := by omega
  have hx : 0 ≤ a / 4294967296 ∧ a / 4294967296 ≤ 4294967295 := by omega
  have hy : 0 ≤ a % 4294967296 ∧ a % 4294967296 ≤ 4294967295 := by omega
  have hz : 0 ≤ b / 4294967296 ∧ b / 4294967296 ≤ 4294967295 := by omega
  have ht : 0 ≤ b % 4294967296 ∧ b % 4294967296 ≤ 4294967295 := by omega
  generalize a / 4294967296 = x at *
  generalize a % 4294967296 = y at *
  generalize b / 4294967296 = z at *
  generalize b % 4294967296 = t at *
  refine ⟨?_, ?_⟩
  · rw [hA, hB, hp, hq, hr, hs]
    grind
  · subst hp; subst hq; subst hr; subst hs
    exact ⟨Int.mul_nonneg hx.1 hz.1, Int.mul_le_mul hx.2 hz.2 hz.1 (by omega), Int.mul_nonneg hx.1 ht.1, Int.mul_le_mul hx.2 ht.2 ht.1 (by omega),
      Int.mul_nonneg hy.1 hz.1, Int.mul_le_mul hy.2 hz.2 hz.1 (by omega), Int.mul_nonneg hy.1 ht.1, Int.mul_le_mul hy.2 ht.2 ht.1 (by omega)⟩

theorem mul_range {a b : Int} (ha : -9223372036854775808 ≤ a) (ha' : a ≤ 9223372036854775807) (hb : -9223372036854775808 ≤ b) (hb' : b ≤ 9223372036854775807) :
    -85070591730234615865843651857942052864 ≤ a * b ∧ a * b ≤ 85070591730234615865843651857942052864 := by
  have h : (a * b).natAbs ≤ 9223372036854775808 * 9223372036854775808 := by
    rw [Int.natAbs_mul]
    exact Nat.mul_le_mul (by omega) (by omega)
  omega
end Go.Se
