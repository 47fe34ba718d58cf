/- Part 19: the plain arithmetic of words, and of numbers of two words. -/
import Derived.Test.YtjlmofhokbnloaaDoorSeData
import Derived.Laws.BitsLemmas
namespace Go.Se

theorem wu64 (n : Int) : IntKind.u64.wrap n = n % 18446744073709551616 := by simp [IntKind.wrap, IntKind.bits, IntKind.signed]
theorem wu8 (n : Int) : IntKind.u8.wrap n = n % 256 := by simp [IntKind.wrap, IntKind.bits, IntKind.signed]
theorem wi64 (n : Int) : IntKind.i64.wrap n = (n + 9223372036854775808) % 18446744073709551616 - 9223372036854775808 := IntKind.wrap_i64 n
theorem fdiv_pos (a : Int) {b : Int} (h : 0 ≤ b) : a.fdiv b = a / b := Int.fdiv_eq_ediv_of_nonneg a h

theorem Br.of {c : Bool} {A B : Prop} (t : c = true → A) (f : c = false → B) : Br c A B := Br.mk t f

theorem and_m32 (a : Int) (ha : 0 ≤ a) (ha' : a ≤ 18446744073709551615) : (((BitVec.ofInt 64 a &&& BitVec.ofInt 64 4294967295).toNat : Nat) : Int) = a % 4294967296 := by
  have h : (BitVec.ofInt 64 4294967295) = BitVec.ofNat 64 (2^32 - 1) := by decide
  obtain ⟨n, rfl⟩ := Int.eq_ofNat_of_zero_le ha
  have hn : n < 2^64 := by omega
  rw [h, BitVec.toNat_and]
  have h1 : (BitVec.ofInt 64 (n : Int)).toNat = n := by
    simp
    omega
  have h2 : (BitVec.ofNat 64 (2^32 - 1)).toNat = 2^32 - 1 := by decide
  rw [h1, h2, Nat.and_two_pow_sub_one_eq_mod]
  omega

/-- The number of two words. -/
def wv (hi lo : Int) : Int := hi * 18446744073709551616 + lo
def wideSV (x : Int) : SV := .agg [.int .i64 (x / 18446744073709551616), .int .u64 (x % 18446744073709551616)]
def in128 (x : Int) : Bool := decide (-170141183460469231731687303715884105728 ≤ x) && decide (x < 170141183460469231731687303715884105728)
def cmpI (x y : Int) : Int := bif decide (x < y) then -1 else bif decide (y < x) then 1 else 0
def absI (x : Int) : Int := bif decide (x < 0) then -x else x

def cMul64 : List SV → List (Option SB) → Out
  | [.int .u64 a, .int .u64 b], [] => some (.tup [.int .u64 (a * b / 18446744073709551616), .int .u64 (a * b % 18446744073709551616)], [], [])
  | _, _ => none
def cOf : List SV → List (Option SB) → Out
  | [.int .i64 a], [] => some (wideSV a, [], [])
  | _, _ => none
def cMul : List SV → List (Option SB) → Out
  | [.int .i64 a, .int .i64 b], [] => some (wideSV (a * b), [], [])
  | _, _ => none
def cAdd : List SV → List (Option SB) → Out
  | [.agg [.int .i64 a, .int .u64 b], .agg [.int .i64 c, .int .u64 d]], [] =>
    some (.tup [wideSV (bif in128 (wv a b + wv c d) then wv a b + wv c d else 0), .bool (in128 (wv a b + wv c d))], [], [])
  | _, _ => none
def cNeg : List SV → List (Option SB) → Out
  | [.agg [.int .i64 a, .int .u64 b]], [] => some (.tup [wideSV (bif in128 (-wv a b) then -wv a b else 0), .bool (in128 (-wv a b))], [], [])
  | _, _ => none
def cCmp : List SV → List (Option SB) → Out
  | [.agg [.int .i64 a, .int .u64 b], .agg [.int .i64 c, .int .u64 d]], [] => some (.int .i64 (cmpI (wv a b) (wv c d)), [], [])
  | _, _ => none
def cSized : List SV → List (Option SB) → Out
  | [.agg [.int .i64 a, .int .u64 b]], [] =>
    some (.tup [.agg [.int .u64 (absI (wv a b) / 18446744073709551616), .int .u64 (absI (wv a b) % 18446744073709551616)], .bool (decide (wv a b < 0))], [], [])
  | _, _ => none
def cBelow : List SV → List (Option SB) → Out
  | [.agg [.int .u64 a, .int .u64 b], .agg [.int .u64 c, .int .u64 d]], [] => some (.bool (decide (wv a b < wv c d)), [], [])
  | _, _ => none
def cCompare (k : IntKind) : List SV → List (Option SB) → Out
  | [.int j a, .int l b], [] => bif decide (j = k) && decide (l = k) then some (.int .i64 (cmpI a b), [], []) else none
  | _, _ => none

theorem wide_eq {hi lo x : Int} (h : hi * 18446744073709551616 + lo = x) (h0 : 0 ≤ lo) (h1 : lo < 18446744073709551616) :
    (SV.agg [.int .i64 hi, .int .u64 lo]) = wideSV x := by
  unfold wideSV
  rw [show hi = x / 18446744073709551616 by omega, show lo = x % 18446744073709551616 by omega]

theorem wv_wide (x : Int) : wv (x / 18446744073709551616) (x % 18446744073709551616) = x := by unfold wv; omega

/-- The upper word of a product, by halves. -/
theorem mul_hi {a b : Int} (ha : 0 ≤ a) (ha' : a ≤ 18446744073709551615) (hb : 0 ≤ b) (hb' : b ≤ 18446744073709551615)
    {p q r s : Int} (hp : p = a / 4294967296 * (b / 4294967296)) (hq : q = a / 4294967296 * (b % 4294967296)) (hr : r = a % 4294967296 * (b / 4294967296)) (hs : s = a % 4294967296 * (b % 4294967296)) :
    a * b = p * 18446744073709551616 + (q + r) * 4294967296 + s ∧ 0 ≤ p ∧ p ≤ 4294967295 * 4294967295 ∧ 0 ≤ q ∧ q ≤ 4294967295 * 4294967295 ∧ 0 ≤ r ∧ r ≤ 4294967295 * 4294967295 ∧ 0 ≤ s ∧ s ≤ 4294967295 * 4294967295 := by
  have hA : a = a / 4294967296 * 4294967296 + a % 4294967296 := by omega
  have hB : b = b / 4294967296 * 4294967296 + b % 4294967296 := by omega
  have hx : 0 ≤ a / 4294967296 ∧ a / 4294967296 ≤ 4294967295 := by omega
  have hy : 0 ≤ a % 4294967296 ∧ a % 4294967296 ≤ 4294967295 := by omega
  have hz : 0 ≤ b / 4294967296 ∧ b / 4294967296 ≤ 4294967295 := by omega
  have ht : 0 ≤ b % 4294967296 ∧ b % 4294967296 ≤ 4294967295 := by omega
  generalize a / 4294967296 = x at *
  generalize a % 4294967296 = y at *
  generalize b / 4294967296 = z at *
  generalize b % 4294967296 = t at *
  refine ⟨?_, ?_⟩
  · rw [hA, hB, hp, hq, hr, hs]
    grind
  · subst hp; subst hq; subst hr; subst hs
    exact ⟨Int.mul_nonneg hx.1 hz.1, Int.mul_le_mul hx.2 hz.2 hz.1 (by omega), Int.mul_nonneg hx.1 ht.1, Int.mul_le_mul hx.2 ht.2 ht.1 (by omega),
      Int.mul_nonneg hy.1 hz.1, Int.mul_le_mul hy.2 hz.2 hz.1 (by omega), Int.mul_nonneg hy.1 ht.1, Int.mul_le_mul hy.2 ht.2 ht.1 (by omega)⟩

theorem mul_range {a b : Int} (ha : -9223372036854775808 ≤ a) (ha' : a ≤ 9223372036854775807) (hb : -9223372036854775808 ≤ b) (hb' : b ≤ 9223372036854775807) :
    -85070591730234615865843651857942052864 ≤ a * b ∧ a * b ≤ 85070591730234615865843651857942052864 := by
  have h : (a * b).natAbs ≤ 9223372036854775808 * 9223372036854775808 := by
    rw [Int.natAbs_mul]
    exact Nat.mul_le_mul (by omega) (by omega)
  omega
end Go.Se

/- Part 20: the plain arithmetic of fixed point numbers. -/
namespace Go.Se

def sat64 (s : Int) : Int := bif decide (s < -9223372036854775808) then -9223372036854775808 else bif decide (9223372036854775807 < s) then 9223372036854775807 else s
def over64 (s : Int) : Bool := decide (s < -9223372036854775808) || decide (9223372036854775807 < s)
/-- Rounded to the nearest, half way to the even one. -/
def rne32 (p : Int) : Int := bif decide (p % 4294967296 > 2147483648) || (p % 4294967296 == 2147483648 && p / 4294967296 % 2 == 1) then p / 4294967296 + 1 else p / 4294967296

def fitP (t : TypeId) (o : Bool) (hi lo : Int) (K : KC) : Prop :=
  Br (hi != (IntKind.i64.wrap lo).fdiv 9223372036854775808)
    (Br (decide (hi < 0)) (K (.int .i64 (-9223372036854775808)) [some (.cells t [.bool true])] [0]) (K (.int .i64 9223372036854775807) [some (.cells t [.bool true])] [0]))
    (K (.int .i64 (IntKind.i64.wrap lo)) [some (.cells t [.bool o])] [])

def KFx (t : TypeId) (o : Bool) (X : Int) (K : KC) : Prop := ∀ d, (∀ p, p ∈ d → p ∈ [0]) → K (.int .i64 (sat64 X)) [some (.cells t [.bool (o || over64 X)])] d

theorem callOK_dirty {P : Program} {k : FuncId} {xs : List SV} {σ : List (Option SB)} {v : SV} {σ' : List (Option SB)} {d d' : List Nat}
    (h : CallOK P k xs σ v σ' d) (hd : ∀ p, p ∈ d → p ∈ d') (hl : ∀ p, p ∈ d' → p < σ.length) : CallOK P k xs σ v σ' d' := by
  intro ρ T w vals h1 h2 h3 h4
  have conv : ∀ (x : Value) (w' : World), (∃ ρ' T', CallDone ρ T w σ v σ' d ρ' T' w' x) → ∃ ρ' T', CallDone ρ T w σ v σ' d' ρ' T' w' x := by
    rintro x w' ⟨ρ', T', c⟩
    exact ⟨ρ', T', {
      names := c.names
      only := c.only
      len := c.len
      val := c.val
      store := c.store
      fresh := fun p b hp hb => (c.fresh p b hp hb).imp id fun ⟨q, q1, q2⟩ => ⟨q, hd q q1, q2⟩
      inj := c.inj
      dirty := hl
      grow := c.grow.mono fun b _ ⟨p, p1, p2⟩ => ⟨p, hd p p1, p2⟩
      tback := c.tback
      below := c.below
      tkeep := fun b hb ht => (c.tkeep b hb ht).imp id fun ⟨q, q1, q2⟩ => ⟨q, hd q q1, q2⟩ }⟩
  rcases h ρ T w vals h1 h2 h3 h4 with ⟨fn, f1, f2, f3, hc⟩ | ⟨x, w', hx, hr⟩
  · exact .inl ⟨fn, f1, f2, f3, hc.mono fun e w' ⟨x, hx, hr⟩ => ⟨x, hx, conv x w' hr⟩⟩
  · exact .inr ⟨x, w', hx, conv x w' hr⟩

theorem callOK_of_callsD {P : Program} (A : Tab P) (B : Know P) {R : List (Nat × Keep)} {unroll : Nat → Nat} {cut : Nat → Bool} {known : FuncId → Bool} {n : Nat} {k : FuncId} {xs : List SV} {σ : List (Option SB)} {v : SV} {σ' : List (Option SB)} {d : List Nat}
    (hl : ∀ p, p ∈ d → p < σ.length)
    (h : okL xs → okS σ → calls (A.env B unroll cut) (keepW R) known n k xs σ fun v' σ'' d' => v' = v ∧ σ'' = σ' ∧ ∀ p, p ∈ d' → p ∈ d) : CallOK P k xs σ v σ' d := by
  refine callOK_of_ok fun h1 h2 => ?_
  obtain ⟨v', σ'', d', ⟨rfl, rfl, hd⟩, hc⟩ := calls_sat (env := A.env B unroll cut) ⟨A.htt, B.ok⟩ A.mixed (fun n => keepW_weaker n R) A.hft n k xs σ _ (h h1 h2)
  exact callOK_dirty hc hd hl

theorem and_one {x : Int} (hx : 0 ≤ x) (hx' : x < 18446744073709551616) : (((BitVec.ofInt 64 x &&& BitVec.ofInt 64 1).toNat : Nat) : Int) = x % 2 := by
  obtain ⟨a, rfl⟩ := Int.eq_ofNat_of_zero_le hx
  have e1 : (BitVec.ofInt 64 (a : Int)).toNat = a := by
    rw [BitVec.toNat_ofInt]; omega
  have e2 : (BitVec.ofInt 64 1).toNat = 1 := by decide
  rw [BitVec.toNat_and, e1, e2, Nat.and_one_is_mod]
  omega

/-- The lower word of a product, less its fraction. -/
def mulLo (p : Int) : Int := IntKind.u64.wrap ↑(BitVec.ofInt IntKind.u64.bits (IntKind.u64.wrap (IntKind.u64.wrap (p / 18446744073709551616) * 4294967296)) ||| BitVec.ofInt IntKind.u64.bits ((p % 18446744073709551616).fdiv 4294967296)).toNat
theorem callOK_of_callsP {P : Program} (A : Tab P) (B : Know P) {R : List (Nat × Keep × List ((Nat × List Nat) × Nat))} {unroll : Nat → Nat} {cut : Nat → Bool} {known : FuncId → Bool} {n : Nat} {k : FuncId} {xs : List SV} {σ : List (Option SB)} {v : SV} {σ' : List (Option SB)} {d : List Nat}
    (hl : ∀ p, p ∈ d → p < σ.length)
    (h : okL xs → okS σ → calls (A.env B unroll cut) (keepP R) known n k xs σ fun v' σ'' d' => v' = v ∧ σ'' = σ' ∧ ∀ p, p ∈ d' → p ∈ d) : CallOK P k xs σ v σ' d := by
  refine callOK_of_ok fun h1 h2 => ?_
  obtain ⟨v', σ'', d', ⟨rfl, rfl, hd⟩, hc⟩ := calls_sat (env := A.env B unroll cut) ⟨A.htt, B.ok⟩ A.mixed (fun n => keepP_weaker n R) A.hft n k xs σ _ (h h1 h2)
  exact callOK_dirty hc hd hl
end Go.Se

/- Part 22: square roots, by halving. -/
namespace Go.Se
def rootF : Nat → Int → Int → Int → Int
  | 0, lo, _, _ => lo
  | f + 1, lo, hi, N => bif decide (lo < hi) then (bif decide (N < (lo + (hi - lo + 1) / 2) * (lo + (hi - lo + 1) / 2)) then rootF f lo (lo + (hi - lo + 1) / 2 - 1) N else rootF f (lo + (hi - lo + 1) / 2) hi N) else lo
def isqrt (N : Int) : Int := bif decide (N ≤ 0) then 0 else rootF 64 1 13835058055282163712 N

def lenGood (N : Int) : Bool := decide (N < 170141183460469231731687303715884105728) && decide (isqrt N ≤ 9223372036854775807)
def lenV (N : Int) : Int := bif lenGood N then isqrt N else 9223372036854775807

end Go.Se

/- Part 23: how many bits a number has. -/
namespace Go.Se
def len8S : ByteArray := ⟨(([0, 1, 2, 2, 3, 3, 3, 3] ++ List.replicate 8 4 ++ List.replicate 16 5 ++ List.replicate 32 6 ++ List.replicate 64 7 ++ List.replicate 128 8 : List UInt8)).toArray⟩
def len8T (b : Int) : Int := ((len8S.data.getD b.toNat 0).toNat : Int)
def len8N (n : Nat) : Nat := (len8S.data.getD n 0).toNat
theorem len8N_ok : ∀ n : Fin 256, n.val = 0 ∨ (1 ≤ len8N n.val ∧ len8N n.val ≤ 8 ∧ 2 ^ (len8N n.val - 1) ≤ n.val ∧ n.val < 2 ^ len8N n.val) := by decide +kernel
theorem len8S_size : len8S.size = 256 := by decide +kernel
theorem len8T_eq (n : Nat) : len8T (n : Int) = (len8N n : Int) := rfl

/-- A number's bits: of the part that its highest byte is. -/
theorem len_part {a : Nat} (k : Nat) (h1 : 2 ^ k ≤ a) (h2 : a < 2 ^ (k + 8)) : ∃ L : Nat, len8T ((a / 2 ^ k : Nat) : Int) + k = (L : Int) ∧ 1 ≤ L ∧ L ≤ k + 8 ∧ 2 ^ (L - 1) ≤ a ∧ a < 2 ^ L := by
  have hlt : a / 2 ^ k < 256 := by
    rw [Nat.div_lt_iff_lt_mul (Nat.two_pow_pos k), show (256 : Nat) = 2 ^ 8 from rfl, ← Nat.pow_add, Nat.add_comm 8 k]; exact h2
  have hpos : 0 < a / 2 ^ k := Nat.div_pos h1 (Nat.two_pow_pos k)
  rcases len8N_ok ⟨a / 2 ^ k, hlt⟩ with h | ⟨p, q, r, s⟩
  · simp only at h; omega
  · simp only at p q r s
    refine ⟨len8N (a / 2 ^ k) + k, by rw [len8T_eq]; omega, by omega, by omega, ?_, ?_⟩
    · rw [show len8N (a / 2 ^ k) + k - 1 = (len8N (a / 2 ^ k) - 1) + k by omega, Nat.pow_add]
      exact (Nat.le_div_iff_mul_le (Nat.two_pow_pos k)).1 r
    · rw [Nat.pow_add]
      exact (Nat.div_lt_iff_lt_mul (Nat.two_pow_pos k)).1 s

def len64 (a : Int) : Int :=
  bif decide (a ≥ 72057594037927936) then len8T (a / 72057594037927936) + 56 else
  bif decide (a ≥ 281474976710656) then len8T (a / 281474976710656) + 48 else
  bif decide (a ≥ 1099511627776) then len8T (a / 1099511627776) + 40 else
  bif decide (a ≥ 4294967296) then len8T (a / 4294967296) + 32 else
  bif decide (a ≥ 16777216) then len8T (a / 16777216) + 24 else
  bif decide (a ≥ 65536) then len8T (a / 65536) + 16 else
  bif decide (a ≥ 256) then len8T (a / 256) + 8 else len8T a

theorem len64_ok {a : Int} (h0 : 0 < a) (h1 : a < 18446744073709551616) : ∃ L : Nat, len64 a = (L : Int) ∧ 1 ≤ L ∧ L ≤ 64 ∧ (2 : Int) ^ (L - 1) ≤ a ∧ a < (2 : Int) ^ L := by
  obtain ⟨n, rfl⟩ := Int.eq_ofNat_of_zero_le (Int.le_of_lt h0)
  have fin : ∀ k : Nat, k ≤ 56 → 2 ^ k ≤ n → n < 2 ^ (k + 8) → len64 n = len8T ((n / 2 ^ k : Nat) : Int) + k → ∃ L : Nat, len64 n = (L : Int) ∧ 1 ≤ L ∧ L ≤ 64 ∧ (2 : Int) ^ (L - 1) ≤ n ∧ (n : Int) < (2 : Int) ^ L := by
    intro k hk a1 a2 a3
    obtain ⟨L, b1, b2, b3, b4, b5⟩ := len_part k a1 a2
    exact ⟨L, by rw [a3, b1], b2, by omega, by exact_mod_cast b4, by exact_mod_cast b5⟩
  unfold len64 at fin ⊢
  by_cases c1 : (n : Int) ≥ 72057594037927936
  · exact fin 56 (by omega) (by omega) (by omega) (by rw [decide_eq_true c1]; rfl)
  by_cases c2 : (n : Int) ≥ 281474976710656
  · exact fin 48 (by omega) (by omega) (by omega) (by rw [decide_eq_false c1, decide_eq_true c2]; rfl)
  by_cases c3 : (n : Int) ≥ 1099511627776
  · exact fin 40 (by omega) (by omega) (by omega) (by rw [decide_eq_false c1, decide_eq_false c2, decide_eq_true c3]; rfl)
  by_cases c4 : (n : Int) ≥ 4294967296
  · exact fin 32 (by omega) (by omega) (by omega) (by rw [decide_eq_false c1, decide_eq_false c2, decide_eq_false c3, decide_eq_true c4]; rfl)
  by_cases c5 : (n : Int) ≥ 16777216
  · exact fin 24 (by omega) (by omega) (by omega) (by rw [decide_eq_false c1, decide_eq_false c2, decide_eq_false c3, decide_eq_false c4, decide_eq_true c5]; rfl)
  by_cases c6 : (n : Int) ≥ 65536
  · exact fin 16 (by omega) (by omega) (by omega) (by rw [decide_eq_false c1, decide_eq_false c2, decide_eq_false c3, decide_eq_false c4, decide_eq_false c5, decide_eq_true c6]; rfl)
  by_cases c7 : (n : Int) ≥ 256
  · exact fin 8 (by omega) (by omega) (by omega) (by rw [decide_eq_false c1, decide_eq_false c2, decide_eq_false c3, decide_eq_false c4, decide_eq_false c5, decide_eq_false c6, decide_eq_true c7]; rfl)
  · exact fin 0 (by omega) (by omega) (by omega) (by rw [decide_eq_false c1, decide_eq_false c2, decide_eq_false c3, decide_eq_false c4, decide_eq_false c5, decide_eq_false c6, decide_eq_false c7]; show len8T n = len8T ((n / 1 : Nat) : Int) + 0; simp)

theorem len8T_range {b : Int} (h0 : 0 ≤ b) (h1 : b ≤ 255) : 0 ≤ len8T b ∧ len8T b ≤ 8 := by
  obtain ⟨n, rfl⟩ := Int.eq_ofNat_of_zero_le h0
  rw [len8T_eq]
  rcases len8N_ok ⟨n, by omega⟩ with h | ⟨_, q, _⟩
  · simp only at h; subst h; rw [show len8N 0 = 0 by decide +kernel]; omega
  · simp only at q; omega
end Go.Se

/- Part 24: a number of two words, divided by one word: digit by digit. -/
namespace Go.Se

def corrP (v1 v0 u : Int) : Nat → Int → Int → (Int → Prop) → Prop
  | 0, _, _, _ => False
  | n + 1, q, r, F =>
    Br (decide (q ≥ 4294967296))
      (Br (decide (IntKind.u64.wrap (r + v1) ≥ 4294967296)) (F (IntKind.u64.wrap (q - 1))) (corrP v1 v0 u n (IntKind.u64.wrap (q - 1)) (IntKind.u64.wrap (r + v1)) F))
      (Br (decide (IntKind.u64.wrap (q * v0) > IntKind.u64.wrap (IntKind.u64.wrap (4294967296 * r) + u)))
        (Br (decide (IntKind.u64.wrap (r + v1) ≥ 4294967296)) (F (IntKind.u64.wrap (q - 1))) (corrP v1 v0 u n (IntKind.u64.wrap (q - 1)) (IntKind.u64.wrap (r + v1)) F))
        (F q))

theorem corr_law {v1 v0 u Uh : Int} {F : Int → Prop} (h1 : 2147483648 ≤ v1) (h1' : v1 < 4294967296) (h0 : 0 ≤ v0) (h0' : v0 < 4294967296) (hu : 0 ≤ u) (hu' : u < 4294967296)
    (hU : 0 ≤ Uh) (hU' : Uh < v1 * 4294967296 + v0) (hF : F ((Uh * 4294967296 + u) / (v1 * 4294967296 + v0))) :
    ∀ (n : Nat) (q r : Int), n ≤ 2 → q * v1 + r = Uh → (2 - (n : Int)) * v1 ≤ r → r < 4294967296 → (Uh * 4294967296 + u) / (v1 * 4294967296 + v0) ≤ q → q ≤ 4294967297 → corrP v1 v0 u n q r F
  | 0, q, r, _, _, h3, h4, _, _ => by simp at h3; omega
  | n + 1, q, r, hn, hq, h3, h4, h5, h6 => by
    have hV : 0 < v1 * 4294967296 + v0 := by omega
    have hr : 0 ≤ r := by
      have : 0 ≤ (2 - ((n + 1 : Nat) : Int)) * v1 := Int.mul_nonneg (by omega) (by omega)
      omega
    have hQ0 : 0 ≤ (Uh * 4294967296 + u) / (v1 * 4294967296 + v0) := Int.ediv_nonneg (by omega) (by omega)
    have hQB : (Uh * 4294967296 + u) / (v1 * 4294967296 + v0) < 4294967296 := by
      rw [Int.ediv_lt_iff_lt_mul hV]; omega
    -- a step down
    have dec : (Uh * 4294967296 + u) / (v1 * 4294967296 + v0) < q →
        Br (decide (IntKind.u64.wrap (r + v1) ≥ 4294967296)) (F (IntKind.u64.wrap (q - 1))) (corrP v1 v0 u n (IntKind.u64.wrap (q - 1)) (IntKind.u64.wrap (r + v1)) F) := by
      intro hlt
      rw [wu64, wu64, show (r + v1) % 18446744073709551616 = r + v1 by omega, show (q - 1) % 18446744073709551616 = q - 1 by omega]
      have hq' : (q - 1) * v1 + (r + v1) = Uh := by rw [Int.sub_mul]; omega
      refine Br.of (fun c => ?_) fun c => ?_
      · have c' := of_decide_eq_true c
        have hle : (q - 1) ≤ (Uh * 4294967296 + u) / (v1 * 4294967296 + v0) := by
          rw [Int.le_ediv_iff_mul_le hV]
          have e : (q - 1) * (v1 * 4294967296 + v0) = (q - 1) * v1 * 4294967296 + (q - 1) * v0 := by rw [Int.mul_add, Int.mul_assoc]
          have hb : (q - 1) * v0 ≤ 4294967296 * 4294967295 := Int.mul_le_mul (by omega) (by omega) h0 (by omega)
          rw [e]
          omega
        rw [show q - 1 = (Uh * 4294967296 + u) / (v1 * 4294967296 + v0) by omega]
        exact hF
      · have c' := of_decide_eq_false c
        refine corr_law h1 h1' h0 h0' hu hu' hU hU' hF n (q - 1) (r + v1) (by omega) hq' ?_ (by omega) (by omega) (by omega)
        have e : (2 - ((n + 1 : Nat) : Int)) * v1 = (2 - (n : Int)) * v1 - v1 := by
          rw [show (2 - ((n + 1 : Nat) : Int)) = (2 - (n : Int)) - 1 by omega, Int.sub_mul, Int.one_mul]
        rw [e] at h3
        omega
    unfold corrP
    refine Br.of (fun c => dec ?_) fun c => Br.of (fun c2 => dec ?_) fun c2 => ?_
    · have := of_decide_eq_true c
      omega
    · have c1 := of_decide_eq_false c
      have c2' := of_decide_eq_true c2
      have hb : q * v0 ≤ 4294967295 * 4294967295 := Int.mul_le_mul (by omega) (by omega) h0 (by omega)
      have hb0 : 0 ≤ q * v0 := Int.mul_nonneg (by omega) h0
      rw [wu64, wu64, wu64] at c2'
      rw [Int.ediv_lt_iff_lt_mul hV, Int.mul_add, ← Int.mul_assoc]
      omega
    · have c1 := of_decide_eq_false c
      have c2' := of_decide_eq_false c2
      have hb : q * v0 ≤ 4294967295 * 4294967295 := Int.mul_le_mul (by omega) (by omega) h0 (by omega)
      have hb0 : 0 ≤ q * v0 := Int.mul_nonneg (by omega) h0
      rw [wu64, wu64, wu64] at c2'
      have : q ≤ (Uh * 4294967296 + u) / (v1 * 4294967296 + v0) := by
        rw [Int.le_ediv_iff_mul_le hV, Int.mul_add, ← Int.mul_assoc]
        omega
      rw [show q = (Uh * 4294967296 + u) / (v1 * 4294967296 + v0) by omega]
      exact hF

/-- One digit: the first guess, and its corrections. -/
def digitP (v1 v0 Uh u : Int) (F : Int → Prop) : Prop :=
  If (v1 != 0) (corrP v1 v0 u 2 (IntKind.u64.wrap (Uh.tdiv v1)) (IntKind.u64.wrap (Uh - IntKind.u64.wrap (IntKind.u64.wrap (Uh.tdiv v1) * v1))) F)

theorem digit_law {v1 v0 u Uh : Int} {F : Int → Prop} (h1 : 2147483648 ≤ v1) (h1' : v1 < 4294967296) (h0 : 0 ≤ v0) (h0' : v0 < 4294967296) (hu : 0 ≤ u) (hu' : u < 4294967296)
    (hU : 0 ≤ Uh) (hU' : Uh < v1 * 4294967296 + v0) (hF : F ((Uh * 4294967296 + u) / (v1 * 4294967296 + v0))) : digitP v1 v0 Uh u F := by
  unfold digitP
  refine If.mk (by rw [bne_iff_ne]; omega) ?_
  have hd := Int.emod_add_mul_ediv Uh v1
  have hm0 := Int.emod_nonneg Uh (show v1 ≠ 0 by omega)
  have hm1 := Int.emod_lt_of_pos Uh (show 0 < v1 by omega)
  have hq0 : 0 ≤ Uh / v1 := Int.ediv_nonneg hU (by omega)
  have hq1 : Uh / v1 < 4294967298 := by
    rw [Int.ediv_lt_iff_lt_mul (by omega)]; omega
  rw [Int.tdiv_eq_ediv_of_nonneg hU, wu64, wu64, wu64, show Uh / v1 % 18446744073709551616 = Uh / v1 by omega]
  have hc : Uh / v1 * v1 = v1 * (Uh / v1) := Int.mul_comm _ _
  have hc0 : 0 ≤ Uh / v1 * v1 := Int.mul_nonneg hq0 (by omega)
  rw [show Uh / v1 * v1 % 18446744073709551616 = Uh / v1 * v1 by omega, show (Uh - Uh / v1 * v1) % 18446744073709551616 = Uh % v1 by omega]
  refine corr_law h1 h1' h0 h0' hu hu' hU hU' hF 2 _ _ (Nat.le_refl _) (by omega) (by simp; omega) (by omega) ?_ (by omega)
  -- the first guess is never too small
  have hV : 0 < v1 * 4294967296 + v0 := by omega
  have : (Uh * 4294967296 + u) / (v1 * 4294967296 + v0) < Uh / v1 + 1 := by
    rw [Int.ediv_lt_iff_lt_mul hV]
    have e : (Uh / v1 + 1) * (v1 * 4294967296 + v0) = (v1 * (Uh / v1) + v1) * 4294967296 + (Uh / v1 + 1) * v0 := by
      rw [Int.mul_add, ← Int.mul_assoc, Int.add_mul, Int.one_mul, hc]
    have hnn : 0 ≤ (Uh / v1 + 1) * v0 := Int.mul_nonneg (by omega) h0
    rw [e]
    omega
  omega

/-- Shifted up. -/
def shU (x s : Int) : Int := IntKind.u64.wrap (x * 2 ^ min s.toNat IntKind.u64.bits)
def lzU (y : Int) : Int := IntKind.u64.wrap (IntKind.i64.wrap (64 - len64 y))
def un32 (hi lo y : Int) : Int := IntKind.u64.wrap ↑(BitVec.ofInt IntKind.u64.bits (shU hi (lzU y)) ||| BitVec.ofInt IntKind.u64.bits (lo.fdiv (2 ^ min (IntKind.u64.wrap (64 - lzU y)).toNat IntKind.u64.bits))).toNat
def lowM (x : Int) : Int := IntKind.u64.wrap ↑(BitVec.ofInt IntKind.u64.bits x &&& BitVec.ofInt IntKind.u64.bits 4294967295).toNat
def restU (Uh u q Y : Int) : Int := IntKind.u64.wrap (IntKind.u64.wrap (IntKind.u64.wrap (Uh * 4294967296) + u) - IntKind.u64.wrap (q * Y))

def divP (hi lo y : Int) (K : KC) : Prop :=
  let Y := shU y (lzU y)
  let L := shU lo (lzU y)
  If (decide (0 ≤ lzU y)) <| If (decide (0 ≤ lzU y)) <| If (decide (0 ≤ IntKind.u64.wrap (64 - lzU y))) <| If (decide (0 ≤ lzU y)) <|
  digitP (Y.fdiv 4294967296) (lowM Y) (un32 hi lo y) (L.fdiv 4294967296) fun q1 =>
    let M := restU (un32 hi lo y) (L.fdiv 4294967296) q1 Y
    digitP (Y.fdiv 4294967296) (lowM Y) M (lowM L) fun q0 =>
      If (decide (0 ≤ lzU y)) <| K (.tup [.int .u64 (IntKind.u64.wrap (IntKind.u64.wrap (q1 * 4294967296) + q0)), .int .u64 ((restU M (lowM L) q0 Y).fdiv (2 ^ min (lzU y).toNat IntKind.u64.bits))]) [] []

theorem lowM_eq {x : Int} (h : 0 ≤ x) (h' : x < 18446744073709551616) : lowM x = x % 4294967296 := by
  unfold lowM; rw [wu64]; show (((BitVec.ofInt 64 x &&& BitVec.ofInt 64 4294967295).toNat : Nat) : Int) % _ = _
  rw [and_m32 x h (by omega)]; omega

theorem rest_eq {Uh u Y : Int} (_hU : 0 ≤ Uh) (_hu : 0 ≤ u) (hY : 0 < Y) (hY' : Y < 18446744073709551616) : restU Uh u ((Uh * 4294967296 + u) / Y) Y = (Uh * 4294967296 + u) % Y := by
  unfold restU
  simp only [wu64]
  have h1 := Int.emod_add_mul_ediv (Uh * 4294967296 + u) Y
  have h2 := Int.emod_nonneg (Uh * 4294967296 + u) (show Y ≠ 0 by omega)
  have h3 := Int.emod_lt_of_pos (Uh * 4294967296 + u) hY
  rw [Int.mul_comm ((Uh * 4294967296 + u) / Y) Y]
  omega

theorem or_shift {x y : Int} {s : Nat} (hx : 0 ≤ x) (hx' : x * 2 ^ s < 18446744073709551616) (hy : 0 ≤ y) (hy' : y < 2 ^ s) (hs : s ≤ 64) :
    (((BitVec.ofInt 64 (x * 2 ^ s) ||| BitVec.ofInt 64 y).toNat : Nat) : Int) = x * 2 ^ s + y := by
  obtain ⟨a, rfl⟩ := Int.eq_ofNat_of_zero_le hx
  obtain ⟨b, rfl⟩ := Int.eq_ofNat_of_zero_le hy
  have hb : b < 2 ^ s := Int.ofNat_lt.1 (by rw [Int.natCast_pow]; exact hy')
  have ha : a * 2 ^ s < 18446744073709551616 := Int.ofNat_lt.1 (by rw [Int.natCast_mul, Int.natCast_pow]; exact hx')
  have hb' : b < 2 ^ 64 := Nat.lt_of_lt_of_le hb (Nat.pow_le_pow_right (by decide) hs)
  have e1 : (BitVec.ofInt 64 ((a : Int) * 2 ^ s)).toNat = 2 ^ s * a := by
    rw [show (a : Int) * 2 ^ s = ((a * 2 ^ s : Nat) : Int) by rw [Int.natCast_mul, Int.natCast_pow]; rfl, BitVec.toNat_ofInt, Nat.mul_comm (2 ^ s) a]
    generalize a * 2 ^ s = z at ha
    omega
  have e2 : (BitVec.ofInt 64 (b : Int)).toNat = b := by
    rw [BitVec.toNat_ofInt]; omega
  rw [BitVec.toNat_or, e1, e2, ← Nat.two_pow_add_eq_or_of_lt hb]
  rw [Nat.mul_comm, Int.natCast_add, Int.natCast_mul, Int.natCast_pow]; rfl

theorem div_law {hi lo y : Int} {K : KC} (hh : 0 ≤ hi) (hl : 0 ≤ lo) (hl' : lo < 18446744073709551616) (hy : hi < y) (hy' : y < 18446744073709551616)
    (hK : K (.tup [.int .u64 ((hi * 18446744073709551616 + lo) / y), .int .u64 ((hi * 18446744073709551616 + lo) % y)]) [] []) : divP hi lo y K := by
  obtain ⟨len, hlen, l1, l2, l3, l4⟩ := len64_ok (a := y) (by omega) hy'
  obtain ⟨s, hs⟩ : ∃ s : Nat, len + s = 64 := ⟨64 - len, by omega⟩
  have hlz : lzU y = (s : Int) := by
    unfold lzU; rw [hlen, wu64, wi64]; omega
  -- the scale
  have hS : (2 : Int) ^ len * 2 ^ s = 18446744073709551616 := by rw [← Int.pow_add, hs]; rfl
  have hS' : (2 : Int) ^ (len - 1) * 2 ^ s = 9223372036854775808 := by rw [← Int.pow_add, show len - 1 + s = 63 by omega]; rfl
  have hpos : 0 < (2 : Int) ^ s := Int.pow_pos (by decide)
  have hpl : 0 < (2 : Int) ^ len := Int.pow_pos (by decide)
  have hshU : ∀ x : Int, shU x (lzU y) = x * 2 ^ s % 18446744073709551616 := fun x => by
    unfold shU
    rw [hlz, wu64, show min (s : Int).toNat IntKind.u64.bits = s by rw [Int.toNat_natCast]; show min s 64 = s; omega]
  have hY1 : 9223372036854775808 ≤ y * 2 ^ s := by rw [← hS']; exact Int.mul_le_mul_of_nonneg_right l3 (Int.le_of_lt hpos)
  have hY2 : y * 2 ^ s < 18446744073709551616 := by rw [← hS]; exact Int.mul_lt_mul_of_pos_right l4 hpos
  have hH : hi * 2 ^ s < y * 2 ^ s := Int.mul_lt_mul_of_pos_right hy hpos
  have hH0 : 0 ≤ hi * 2 ^ s := Int.mul_nonneg hh (Int.le_of_lt hpos)
  have hL0 : 0 ≤ lo * 2 ^ s := Int.mul_nonneg hl (Int.le_of_lt hpos)
  have hYe : shU y (lzU y) = y * 2 ^ s := by rw [hshU]; omega
  -- the upper word
  have hdiv : lo * 2 ^ s / 18446744073709551616 = lo / 2 ^ len := by
    rw [← hS]; exact Int.mul_ediv_mul_of_pos_left lo (2 ^ len) hpos
  have hlt : lo / 2 ^ len < 2 ^ s := by
    rw [Int.ediv_lt_iff_lt_mul hpl, Int.mul_comm, hS]; exact hl'
  have hge : 0 ≤ lo / 2 ^ len := Int.ediv_nonneg hl (Int.le_of_lt hpl)
  have hUlt : hi * 2 ^ s + lo * 2 ^ s / 18446744073709551616 < y * 2 ^ s := by
    have : hi * 2 ^ s + 2 ^ s ≤ y * 2 ^ s := by
      have e : hi * 2 ^ s + 2 ^ s = (hi + 1) * 2 ^ s := by rw [Int.add_mul, Int.one_mul]
      rw [e]
      exact Int.mul_le_mul_of_nonneg_right (by omega) (Int.le_of_lt hpos)
    omega
  have hun : un32 hi lo y = hi * 2 ^ s + lo * 2 ^ s / 18446744073709551616 := by
    unfold un32
    rw [hshU, hlz, wu64, wu64, show hi * 2 ^ s % 18446744073709551616 = hi * 2 ^ s by omega, show min ((64 - (s : Int)) % 18446744073709551616).toNat IntKind.u64.bits = len by
      show min _ 64 = len
      omega, fdiv_pos _ (Int.le_of_lt hpl)]
    show (((BitVec.ofInt 64 _ ||| BitVec.ofInt 64 _).toNat : Nat) : Int) % _ = _
    rw [or_shift hh (by omega) hge hlt (by omega), hdiv]
    rw [hdiv] at hUlt
    omega
  have hLe : shU lo (lzU y) = lo * 2 ^ s % 18446744073709551616 := hshU lo
  -- the number, shifted
  have hN : (hi * 2 ^ s + lo * 2 ^ s / 18446744073709551616) * 18446744073709551616 + lo * 2 ^ s % 18446744073709551616 = (hi * 18446744073709551616 + lo) * 2 ^ s := by
    rw [Int.add_mul (hi * 18446744073709551616) lo, Int.mul_assoc hi, Int.mul_comm 18446744073709551616 ((2 : Int) ^ s), ← Int.mul_assoc hi]
    omega
  have hq : (hi * 18446744073709551616 + lo) * 2 ^ s / (y * 2 ^ s) = (hi * 18446744073709551616 + lo) / y := Int.mul_ediv_mul_of_pos_left _ _ hpos
  have hm : (hi * 18446744073709551616 + lo) * 2 ^ s % (y * 2 ^ s) = (hi * 18446744073709551616 + lo) % y * 2 ^ s := by
    rw [Int.mul_comm _ ((2 : Int) ^ s), Int.mul_comm y, Int.mul_emod_mul_of_pos _ _ hpos, Int.mul_comm]
  have hrem : 0 ≤ (hi * 18446744073709551616 + lo) % y := Int.emod_nonneg _ (by omega)
  unfold divP
  simp only []
  rw [hYe, hLe, hun, hlz]
  have hs0 : decide ((0 : Int) ≤ (s : Int)) = true := decide_eq_true (by omega)
  refine If.mk hs0 (If.mk hs0 (If.mk (by rw [wu64]; exact decide_eq_true (by omega)) (If.mk hs0 ?_)))
  rw [lowM_eq (by omega) hY2, lowM_eq (x := lo * 2 ^ s % 18446744073709551616) (by omega) (by omega)]
  simp only [fdiv_pos _ (show (0 : Int) ≤ 4294967296 by decide)]
  generalize hYv : y * 2 ^ s = Y at *
  generalize hUv : hi * 2 ^ s + lo * 2 ^ s / 18446744073709551616 = U at *
  have hU0 : 0 ≤ U := by omega
  generalize hLv : lo * 2 ^ s % 18446744073709551616 = L at *
  have hL1 : 0 ≤ L ∧ L < 18446744073709551616 := by omega
  have hY3 : Y / 4294967296 * 4294967296 + Y % 4294967296 = Y := by omega
  refine digit_law (by omega) (by omega) (by omega) (by omega) (by omega) (by omega) hU0 (by omega) ?_
  rw [hY3, rest_eq hU0 (by omega) (by omega) hY2]
  have hM0 := Int.emod_nonneg (U * 4294967296 + L / 4294967296) (show Y ≠ 0 by omega)
  have hM1 := Int.emod_lt_of_pos (U * 4294967296 + L / 4294967296) (show 0 < Y by omega)
  have hMd := Int.emod_add_mul_ediv (U * 4294967296 + L / 4294967296) Y
  have hQ0 : 0 ≤ (U * 4294967296 + L / 4294967296) / Y := Int.ediv_nonneg (by omega) (by omega)
  have hQ1 : (U * 4294967296 + L / 4294967296) / Y < 4294967296 := by rw [Int.ediv_lt_iff_lt_mul (by omega)]; omega
  generalize hMv : (U * 4294967296 + L / 4294967296) % Y = M at *
  generalize hQv : (U * 4294967296 + L / 4294967296) / Y = Q at *
  refine digit_law (by omega) (by omega) (by omega) (by omega) (by omega) (by omega) hM0 (by omega) ?_
  rw [hY3, rest_eq hM0 (by omega) (by omega) hY2]
  refine If.mk hs0 ?_
  have hq0 : 0 ≤ (M * 4294967296 + L % 4294967296) / Y := Int.ediv_nonneg (by omega) (by omega)
  have hq1 : (M * 4294967296 + L % 4294967296) / Y < 4294967296 := by rw [Int.ediv_lt_iff_lt_mul (by omega)]; omega
  have hsplit : (hi * 18446744073709551616 + lo) * 2 ^ s = (M * 4294967296 + L % 4294967296) + Q * 4294967296 * Y := by
    rw [← hN, Int.mul_assoc, Int.mul_comm 4294967296 Y, ← Int.mul_assoc, Int.mul_comm Q Y]
    omega
  have hres : (hi * 18446744073709551616 + lo) / y = (M * 4294967296 + L % 4294967296) / Y + Q * 4294967296 := by
    rw [← hq, hsplit, Int.add_mul_ediv_right _ _ (by omega)]
  have hmod : (hi * 18446744073709551616 + lo) % y * 2 ^ s = (M * 4294967296 + L % 4294967296) % Y := by
    rw [← hm, hsplit, Int.add_mul_emod_self_right]
  rw [show min (s : Int).toNat IntKind.u64.bits = s by rw [Int.toNat_natCast]; show min s 64 = s; omega, fdiv_pos _ (Int.le_of_lt hpos), ← hmod, Int.mul_ediv_cancel _ (by omega), wu64, wu64,
    show (Q * 4294967296 % 18446744073709551616 + (M * 4294967296 + L % 4294967296) / Y) % 18446744073709551616 = (hi * 18446744073709551616 + lo) / y by rw [hres]; omega]
  exact hK

/-- Rounded to the nearest, half way to the even one. -/
def rneQ (n d : Int) : Int := bif (decide (n % d > d - n % d) || (n % d == d - n % d && n / d % 2 == 1)) && decide (n % d > 0) then n / d + 1 else n / d
def divN (x b : Int) : Int := bif (decide (x < 0) != decide (b < 0)) then -rneQ (absI x) (absI b) else rneQ (absI x) (absI b)
def in64 (x : Int) : Bool := decide (-9223372036854775808 ≤ x) && decide (x ≤ 9223372036854775807)
def divGood (x b : Int) : Bool := b != 0 && in64 (divN x b)
def divV (x b : Int) : Int := bif divGood x b then divN x b else 0

def dvNo (K : KC) : Prop := K (.tup [.int .i64 0, .bool false]) [] []
def dvY (q : Int) (c : Bool) (K : KC) : Prop := Br c (K (.tup [.int .i64 (IntKind.i64.wrap q), .bool true]) [] []) (dvNo K)
def dvX (neg : Bool) (q : Int) (c : Bool) (K : KC) : Prop :=
  Br c (K (.tup [.int .i64 (IntKind.i64.wrap (IntKind.u64.wrap (0 - q))), .bool true]) [] [])
    (Br (!neg) (dvY q (decide (q < 9223372036854775808)) K) (dvY q false K))
def dvFin (neg : Bool) (q : Int) (K : KC) : Prop := Br neg (dvX neg q (decide (q ≤ 9223372036854775808)) K) (dvX neg q false K)
def dvG (neg : Bool) (q : Int) (c : Bool) (K : KC) : Prop := Br c (Br (IntKind.u64.wrap (q + 1) == 0) (dvNo K) (dvFin neg (IntKind.u64.wrap (q + 1)) K)) (dvFin neg q K)
def dvE (neg : Bool) (q r : Int) (up : Bool) (K : KC) : Prop := Br up (dvG neg q (decide (r > 0)) K) (dvG neg q false K)
def dvD (neg : Bool) (H L d : Int) (K : KC) : Prop :=
  Br (decide (H ≥ d)) (dvNo K) (If (decide (H < d))
    ((fun q r => Br (decide (r > IntKind.u64.wrap (d - r))) (dvE neg q r true K)
      (Br (r == IntKind.u64.wrap (d - r)) (dvE neg q r (IntKind.u64.wrap ↑(BitVec.ofInt IntKind.u64.bits q &&& BitVec.ofInt IntKind.u64.bits 1).toNat == 1) K) (dvE neg q r false K))) ((H * 18446744073709551616 + L) / d) ((H * 18446744073709551616 + L) % d)))
def dvP (x b : Int) (K : KC) : Prop :=
  Br (decide (b < 0)) (dvD (!decide (x < 0)) (absI x / 18446744073709551616) (absI x % 18446744073709551616) (IntKind.u64.wrap (0 - IntKind.u64.wrap b)) K)
    (dvD (decide (x < 0)) (absI x / 18446744073709551616) (absI x % 18446744073709551616) (IntKind.u64.wrap b) K)

/-- What is told of the end. -/
def dvK (neg : Bool) (Q : Int) (K : KC) : Prop :=
  K (.tup [.int .i64 (bif in64 (bif neg then -Q else Q) then (bif neg then -Q else Q) else 0), .bool (in64 (bif neg then -Q else Q))]) [] []

theorem dvFin_law {neg : Bool} {Q : Int} {K : KC} (h0 : 0 ≤ Q) (h1 : Q < 18446744073709551616) (hK : dvK neg Q K) : dvFin neg Q K := by
  unfold dvK in64 at hK
  unfold dvFin dvX dvY dvNo
  simp only [wu64, wi64]
  cases neg
  · refine Br.of (fun h => by cases h) fun _ => Br.of (fun h => by cases h) fun _ => Br.of (fun _ => Br.of (fun c => ?_) fun c => ?_) fun h => by cases h
    · have c' := of_decide_eq_true c
      simp only [cond_false] at hK
      rw [decide_eq_true (show -9223372036854775808 ≤ Q by omega), decide_eq_true (show Q ≤ 9223372036854775807 by omega)] at hK
      rw [show (Q + 9223372036854775808) % 18446744073709551616 - 9223372036854775808 = Q by omega]
      exact hK
    · have c' := of_decide_eq_false c
      simp only [cond_false] at hK
      rw [decide_eq_false (show ¬ Q ≤ 9223372036854775807 by omega), Bool.and_false] at hK
      exact hK
  · refine Br.of (fun _ => Br.of (fun c => ?_) fun c => Br.of (fun h => by cases h) fun _ => Br.of (fun h => by cases h) fun _ => ?_) fun h => by cases h
    · have c' := of_decide_eq_true c
      simp only [cond_true] at hK
      rw [decide_eq_true (show -9223372036854775808 ≤ -Q by omega), decide_eq_true (show -Q ≤ 9223372036854775807 by omega)] at hK
      rw [show ((0 - Q) % 18446744073709551616 + 9223372036854775808) % 18446744073709551616 - 9223372036854775808 = -Q by omega]
      exact hK
    · have c' := of_decide_eq_false c
      simp only [cond_true] at hK
      rw [decide_eq_false (show ¬ -9223372036854775808 ≤ -Q by omega), Bool.false_and] at hK
      exact hK

theorem dvNo_law {neg : Bool} {Q : Int} {K : KC} (h1 : 18446744073709551616 ≤ Q) (hK : dvK neg Q K) : dvNo K := by
  unfold dvK in64 at hK
  unfold dvNo
  cases neg
  · simp only [cond_false] at hK
    rw [decide_eq_false (show ¬ Q ≤ 9223372036854775807 by omega), Bool.and_false] at hK
    exact hK
  · simp only [cond_true] at hK
    rw [decide_eq_false (show ¬ -9223372036854775808 ≤ -Q by omega), Bool.false_and] at hK
    exact hK

theorem dvD_law {neg : Bool} {n d : Int} {K : KC} (hn : 0 ≤ n) (_hn' : n < 340282366920938463463374607431768211456) (hd : 0 < d) (hd' : d < 18446744073709551616) (hK : dvK neg (rneQ n d) K) :
    dvD neg (n / 18446744073709551616) (n % 18446744073709551616) d K := by
  unfold dvD
  refine Br.of (fun c => ?_) fun c => If.mk ?_ ?_
  · have c' := of_decide_eq_true c
    refine dvNo_law (Q := rneQ n d) ?_ hK
    have : 18446744073709551616 ≤ n / d := by
      rw [Int.le_ediv_iff_mul_le hd]; omega
    unfold rneQ
    cases (decide (n % d > d - n % d) || (n % d == d - n % d && n / d % 2 == 1)) && decide (n % d > 0) <;> simp only [cond_true, cond_false] <;> omega
  · have c' := of_decide_eq_false c
    exact decide_eq_true (by omega)
  · have c' := of_decide_eq_false c
    rw [show n / 18446744073709551616 * 18446744073709551616 + n % 18446744073709551616 = n by omega]
    have hq0 : 0 ≤ n / d := Int.ediv_nonneg hn (by omega)
    have hq1 : n / d < 18446744073709551616 := by rw [Int.ediv_lt_iff_lt_mul hd]; omega
    have hr0 := Int.emod_nonneg n (show d ≠ 0 by omega)
    have hr1 := Int.emod_lt_of_pos n hd
    unfold rneQ at hK
    generalize n / d = q at *
    generalize n % d = r at *
    show Br _ _ _
    unfold dvE dvG
    simp only [wu64]
    rw [show (d - r) % 18446744073709551616 = d - r by omega]
    have hand : (((BitVec.ofInt IntKind.u64.bits q &&& BitVec.ofInt IntKind.u64.bits 1).toNat : Nat) : Int) % 18446744073709551616 = q % 2 := by
      show (((BitVec.ofInt 64 q &&& BitVec.ofInt 64 1).toNat : Nat) : Int) % _ = _
      rw [and_one hq0 hq1]; omega
    rw [hand]
    have up : (dvK neg (q + 1) K) → Br ((q + 1) % 18446744073709551616 == 0) (dvNo K) (dvFin neg ((q + 1) % 18446744073709551616) K) := by
      intro h
      refine Br.of (fun c => ?_) fun c => ?_
      · have := eq_of_beq c
        exact dvNo_law (Q := q + 1) (by omega) h
      · have : (q + 1) % 18446744073709551616 ≠ 0 := by simpa using c
        rw [show (q + 1) % 18446744073709551616 = q + 1 by omega]
        exact dvFin_law (by omega) (by omega) h
    refine Br.of (fun c1 => Br.of (fun _ => Br.of (fun c2 => ?_) fun c2 => ?_) fun h => by cases h) fun c1 => Br.of (fun c2 => Br.of (fun c3 => Br.of (fun c4 => ?_) fun c4 => ?_) fun c3 => Br.of (fun h => by cases h) fun _ => ?_) fun c2 => Br.of (fun h => by cases h) fun _ => Br.of (fun h => by cases h) fun _ => ?_
    · rw [c1, c2] at hK; exact up hK
    · rw [c1, c2] at hK; exact dvFin_law hq0 hq1 hK
    · rw [c1, c2, c3, c4] at hK; exact up hK
    · rw [c1, c2, c3, c4] at hK; exact dvFin_law hq0 hq1 hK
    · rw [c1, c2, c3] at hK; exact dvFin_law hq0 hq1 hK
    · rw [c1, c2] at hK; exact dvFin_law hq0 hq1 hK

theorem dvP_law {x b : Int} {K : KC} (hx : -170141183460469231731687303715884105728 ≤ x) (hx' : x < 170141183460469231731687303715884105728) (hb : -9223372036854775808 ≤ b) (hb' : b ≤ 9223372036854775807)
    (hK : K (.tup [.int .i64 (divV x b), .bool (divGood x b)]) [] []) : dvP x b K := by
  unfold dvP
  have ha : 0 ≤ absI x ∧ absI x < 340282366920938463463374607431768211456 := by
    unfold absI
    by_cases h : x < 0
    · rw [decide_eq_true h]; simp only [cond_true]; omega
    · rw [decide_eq_false h]; simp only [cond_false]; omega
  unfold divV divGood divN at hK
  refine Br.of (fun c => ?_) fun c => ?_
  · have c' := of_decide_eq_true c
    rw [wu64, wu64, show (0 - b % 18446744073709551616) % 18446744073709551616 = absI b by unfold absI; rw [c]; simp only [cond_true]; omega]
    refine dvD_law ha.1 ha.2 (by unfold absI; rw [c]; simp only [cond_true]; omega) (by unfold absI; rw [c]; simp only [cond_true]; omega) ?_
    unfold dvK
    rw [show (b != 0) = true by rw [bne_iff_ne]; omega, c] at hK
    cases hxn : decide (x < 0) <;> rw [hxn] at hK <;> exact hK
  · have c' := of_decide_eq_false c
    by_cases h0 : b = 0
    · subst h0
      unfold dvD
      refine Br.of (fun _ => hK) fun h => ?_
      have := of_decide_eq_false h
      rw [wu64] at this
      omega
    · rw [wu64, show b % 18446744073709551616 = absI b by unfold absI; rw [c]; simp only [cond_false]; omega]
      refine dvD_law ha.1 ha.2 (by unfold absI; rw [c]; simp only [cond_false]; omega) (by unfold absI; rw [c]; simp only [cond_false]; omega) ?_
      unfold dvK
      rw [show (b != 0) = true by rw [bne_iff_ne]; omega, c] at hK
      cases hxn : decide (x < 0) <;> rw [hxn] at hK <;> exact hK
end Go.Se

