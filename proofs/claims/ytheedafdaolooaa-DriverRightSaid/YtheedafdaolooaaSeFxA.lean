/- Part 20: the plain arithmetic of fixed point numbers. -/
import Derived.Test.YtheedafdaolooaaSeArith
namespace Go.Se

def sat64 (s : Int) : Int := bif decide (s < -9223372036854775808) then -9223372036854775808 else bif decide (9223372036854775807 < s) then 9223372036854775807 else s
def over64 (s : Int) : Bool := decide (s < -9223372036854775808) || decide (9223372036854775807 < s)
/-- Rounded to the nearest, half way to the even one. -/
def rne32 (p : Int) : Int := bif decide (p % 4294967296 > 2147483648) || (p % 4294967296 == 2147483648 && p / 4294967296 % 2 == 1) then p / 4294967296 + 1 else p / 4294967296

def fitP (t : TypeId) (o : Bool) (hi lo : Int) (K : KC) : Prop :=
  Br (hi != (IntKind.i64.wrap lo).fdiv 9223372036854775808)
    (Br (decide (hi < 0)) (K (.int .i64 (-9223372036854775808)) [some (.cells t [.bool true])] [0]) (K (.int .i64 9223372036854775807) [some (.cells t [.bool true])] [0]))
    (K (.int .i64 (IntKind.i64.wrap lo)) [some (.cells t [.bool o])] [])

def KFx (t : TypeId) (o : Bool) (X : Int) (K : KC) : Prop := ∀ d, (∀ p, p ∈ d → p ∈ [0]) → K (.int .i64 (sat64 X)) [some (.cells t [.bool (o || over64 X)])] d

theorem fit_law {t : TypeId} {o : Bool} {hi lo X : Int} {K : KC} (hlo : 0 ≤ lo) (hlo' : lo < 18446744073709551616) (hX : wv hi lo = X) (hK : KFx t o X K) : fitP t o hi lo K := by
  unfold fitP
  unfold wv at hX
  rw [wi64, fdiv_pos _ (by decide)]
  refine Br.of (fun h1 => Br.of (fun h2 => ?_) fun h2 => ?_) fun h1 => ?_
  · have h1' := bne_iff_ne.1 h1
    have h2' := of_decide_eq_true h2
    have hlt : X < -9223372036854775808 := by omega
    have := hK [0] fun p h => h
    unfold sat64 over64 at this
    rw [decide_eq_true hlt] at this
    simpa using this
  · have h1' := bne_iff_ne.1 h1
    have h2' := of_decide_eq_false h2
    have hlt : 9223372036854775807 < X := by omega
    have := hK [0] fun p h => h
    unfold sat64 over64 at this
    rw [decide_eq_true hlt, decide_eq_false (show ¬ X < -9223372036854775808 by omega)] at this
    simpa using this
  · have h1' := bne_eq_false_iff_eq.1 h1
    have := hK [] fun p h => nomatch h
    unfold sat64 over64 at this
    rw [decide_eq_false (show ¬ 9223372036854775807 < X by omega), decide_eq_false (show ¬ X < -9223372036854775808 by omega)] at this
    simp only [cond_false, Bool.or_false] at this
    rw [show (lo + 9223372036854775808) % 18446744073709551616 - 9223372036854775808 = X by omega]
    exact this

theorem callOK_dirty {P : Program} {k : FuncId} {xs : List SV} {σ : List (Option SB)} {v : SV} {σ' : List (Option SB)} {d d' : List Nat}
    (h : CallOK P k xs σ v σ' d) (hd : ∀ p, p ∈ d → p ∈ d') (hl : ∀ p, p ∈ d' → p < σ.length) : CallOK P k xs σ v σ' d' := by
  intro ρ T w vals h1 h2 h3 h4
  have conv : ∀ (x : Value) (w' : World), (∃ ρ' T', CallDone ρ T w σ v σ' d ρ' T' w' x) → ∃ ρ' T', CallDone ρ T w σ v σ' d' ρ' T' w' x := by
    rintro x w' ⟨ρ', T', c⟩
    exact ⟨ρ', T', {
      names := c.names
      only := c.only
      len := c.len
      val := c.val
      store := c.store
      fresh := fun p b hp hb => (c.fresh p b hp hb).imp id fun ⟨q, q1, q2⟩ => ⟨q, hd q q1, q2⟩
      inj := c.inj
      dirty := hl
      grow := c.grow.mono fun b _ ⟨p, p1, p2⟩ => ⟨p, hd p p1, p2⟩
      tback := c.tback
      below := c.below
      tkeep := fun b hb ht => (c.tkeep b hb ht).imp id fun ⟨q, q1, q2⟩ => ⟨q, hd q q1, q2⟩ }⟩
  rcases h ρ T w vals h1 h2 h3 h4 with ⟨fn, f1, f2, f3, hc⟩ | ⟨x, w', hx, hr⟩
  · exact .inl ⟨fn, f1, f2, f3, hc.mono fun e w' ⟨x, hx, hr⟩ => ⟨x, hx, conv x w' hr⟩⟩
  · exact .inr ⟨x, w', hx, conv x w' hr⟩

theorem callOK_of_callsD {P : Program} (A : Tab P) (B : Know P) {R : List (Nat × Keep)} {unroll : Nat → Nat} {cut : Nat → Bool} {known : FuncId → Bool} {n : Nat} {k : FuncId} {xs : List SV} {σ : List (Option SB)} {v : SV} {σ' : List (Option SB)} {d : List Nat}
    (hl : ∀ p, p ∈ d → p < σ.length)
    (h : okL xs → okS σ → calls (A.env B unroll cut) (keepW R) known n k xs σ fun v' σ'' d' => v' = v ∧ σ'' = σ' ∧ ∀ p, p ∈ d' → p ∈ d) : CallOK P k xs σ v σ' d := by
  refine callOK_of_ok fun h1 h2 => ?_
  obtain ⟨v', σ'', d', ⟨rfl, rfl, hd⟩, hc⟩ := calls_sat (env := A.env B unroll cut) ⟨A.htt, B.ok⟩ A.mixed (fun n => keepW_weaker n R) A.hft n k xs σ _ (h h1 h2)
  exact callOK_dirty hc hd hl

theorem or_halves {x y : Int} (hx : 0 ≤ x) (hx' : x < 4294967296) (hy : 0 ≤ y) (hy' : y < 4294967296) :
    (((BitVec.ofInt 64 (x * 4294967296) ||| BitVec.ofInt 64 y).toNat : Nat) : Int) = x * 4294967296 + y := by
  obtain ⟨a, rfl⟩ := Int.eq_ofNat_of_zero_le hx
  obtain ⟨b, rfl⟩ := Int.eq_ofNat_of_zero_le hy
  have e1 : (BitVec.ofInt 64 ((a : Int) * 4294967296)).toNat = 2 ^ 32 * a := by
    rw [BitVec.toNat_ofInt]; omega
  have e2 : (BitVec.ofInt 64 (b : Int)).toNat = b := by
    rw [BitVec.toNat_ofInt]; omega
  rw [BitVec.toNat_or, e1, e2, ← Nat.two_pow_add_eq_or_of_lt (by omega : b < 2 ^ 32)]
  omega

theorem and_one {x : Int} (hx : 0 ≤ x) (hx' : x < 18446744073709551616) : (((BitVec.ofInt 64 x &&& BitVec.ofInt 64 1).toNat : Nat) : Int) = x % 2 := by
  obtain ⟨a, rfl⟩ := Int.eq_ofNat_of_zero_le hx
  have e1 : (BitVec.ofInt 64 (a : Int)).toNat = a := by
    rw [BitVec.toNat_ofInt]; omega
  have e2 : (BitVec.ofInt 64 1).toNat = 1 := by decide
  rw [BitVec.toNat_and, e1, e2, Nat.and_one_is_mod]
  omega

/-- The lower word of a product, less its fraction. -/
def mulLo (p : Int) : Int := IntKind.u64.wrap ↑(BitVec.ofInt IntKind.u64.bits (IntKind.u64.wrap (IntKind.u64.wrap (p / 18446744073709551616) * 4294967296)) ||| BitVec.ofInt IntKind.u64.bits ((p % 18446744073709551616).fdiv 4294967296)).toNat
theorem mulLo_eq (p : Int) : mulLo p = p / 4294967296 % 18446744073709551616 := by
  unfold mulLo
  simp only [wu64, fdiv_pos _ (show (0 : Int) ≤ 4294967296 by decide)]
  rw [show p / 18446744073709551616 % 18446744073709551616 * 4294967296 % 18446744073709551616 = p / 18446744073709551616 % 4294967296 * 4294967296 by omega]
  show (((BitVec.ofInt 64 _ ||| BitVec.ofInt 64 _).toNat : Nat) : Int) % _ = _
  rw [or_halves (by omega) (by omega) (by omega) (by omega)]
  omega
end Go.Se
