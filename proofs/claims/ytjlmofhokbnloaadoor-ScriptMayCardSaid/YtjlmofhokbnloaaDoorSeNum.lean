/- Part 31: numbers of a sign and four parts of 32 bits: plain. -/
import Derived.Test.YtjlmofhokbnloaaDoorSeArith
namespace Go.Se
def dv (a b c d : Int) : Int := a + b * 4294967296 + c * 18446744073709551616 + d * 79228162514264337593543950336
def dOk (a b c d : Int) : Bool := decide (a < 4294967296) && decide (b < 4294967296) && decide (c < 4294967296) && decide (d < 4294967296)
def digL (X : Int) : List SV := [.int .u64 (X % 4294967296), .int .u64 (X / 4294967296 % 4294967296), .int .u64 (X / 18446744073709551616 % 4294967296), .int .u64 (X / 79228162514264337593543950336 % 4294967296)]
def nSV (x : Int) : SV := .agg (.bool (decide (x < 0)) :: digL (absI x))
def nv (s : Bool) (a b c d : Int) : Int := bif s then -dv a b c d else dv a b c d

theorem dOk_iff {a b c d : Int} : dOk a b c d = true ↔ a < 4294967296 ∧ b < 4294967296 ∧ c < 4294967296 ∧ d < 4294967296 := by
  unfold dOk; simp only [Bool.and_eq_true, decide_eq_true_eq, and_assoc]
theorem dOk_dig (X : Int) : dOk (X % 4294967296) (X / 4294967296 % 4294967296) (X / 18446744073709551616 % 4294967296) (X / 79228162514264337593543950336 % 4294967296) = true := by
  rw [dOk_iff]; omega
theorem dv_dig {X : Int} (h0 : 0 ≤ X) (h1 : X < 340282366920938463463374607431768211456) :
    dv (X % 4294967296) (X / 4294967296 % 4294967296) (X / 18446744073709551616 % 4294967296) (X / 79228162514264337593543950336 % 4294967296) = X := by
  unfold dv; omega
/-- Four parts are those of their number. -/
theorem dig_eq {a b c d X : Int} (h : dOk a b c d = true) (ha : 0 ≤ a) (hb : 0 ≤ b) (hc : 0 ≤ c) (hd : 0 ≤ d) (hX : dv a b c d = X) :
    ([.int .u64 a, .int .u64 b, .int .u64 c, .int .u64 d] : List SV) = digL X := by
  rw [dOk_iff] at h
  unfold dv at hX
  unfold digL
  rw [show a = X % 4294967296 by omega, show b = X / 4294967296 % 4294967296 by omega, show c = X / 18446744073709551616 % 4294967296 by omega, show d = X / 79228162514264337593543950336 % 4294967296 by omega]
theorem dig_mod {a b c d X : Int} (h : dOk a b c d = true) (ha : 0 ≤ a) (hb : 0 ≤ b) (hc : 0 ≤ c) (_hd : 0 ≤ d) (hX : dv a b c d = X % 340282366920938463463374607431768211456) :
    ([.int .u64 a, .int .u64 b, .int .u64 c, .int .u64 d] : List SV) = digL X := by
  rw [dOk_iff] at h
  unfold dv at hX
  unfold digL
  rw [show a = X % 4294967296 by omega, show b = X / 4294967296 % 4294967296 by omega, show c = X / 18446744073709551616 % 4294967296 by omega, show d = X / 79228162514264337593543950336 % 4294967296 by omega]
theorem absI_nonneg (x : Int) : 0 ≤ absI x := by
  unfold absI
  cases h : decide (x < 0)
  · have := of_decide_eq_false h; simp only [cond_false]; omega
  · have := of_decide_eq_true h; simp only [cond_true]; omega
theorem absI_lt {x B : Int} (h0 : -B < x) (h1 : x < B) : absI x < B := by
  unfold absI
  cases decide (x < 0)
  · simp only [cond_false]; omega
  · simp only [cond_true]; omega
/-- A sign and four parts are a number's. -/
theorem num_eq {s : Bool} {a b c d x : Int} (h : dOk a b c d = true) (ha : 0 ≤ a) (hb : 0 ≤ b) (hc : 0 ≤ c) (hd : 0 ≤ d) (hs : s = decide (x < 0)) (hX : dv a b c d = absI x) :
    SV.agg (.bool s :: [.int .u64 a, .int .u64 b, .int .u64 c, .int .u64 d]) = nSV x := by
  rw [dig_eq h ha hb hc hd hX, hs]; rfl
end Go.Se
namespace Go.Se
theorem u64_tdiv (x : Int) : (IntKind.u64.wrap x).tdiv 4294967296 = x % 18446744073709551616 / 4294967296 := by
  rw [wu64, Int.tdiv_eq_ediv_of_nonneg (by omega)]
def cSizeN : List SV → List (Option SB) → Out
  | [.int .i64 n], [] => some (.int .u64 (absI n), [], [])
  | _, _ => none
def cLow : List SV → List (Option SB) → Out
  | [.int .u64 n], [] => some (.int .u64 (n % 4294967296), [], [])
  | _, _ => none
abbrev OutIf := Option (Bool × SV × List (Option SB) × List Nat)
def cLessN : List SV → List (Option SB) → OutIf
  | [.agg [.int .u64 a, .int .u64 b, .int .u64 c, .int .u64 d], .agg [.int .u64 e, .int .u64 f, .int .u64 g, .int .u64 h]], [] =>
    some (dOk a b c d && dOk e f g h, .bool (decide (dv a b c d < dv e f g h)), [], [])
  | _, _ => none
def cPlusN : List SV → List (Option SB) → OutIf
  | [.agg [.int .u64 a, .int .u64 b, .int .u64 c, .int .u64 d], .agg [.int .u64 e, .int .u64 f, .int .u64 g, .int .u64 h]], [] =>
    some (dOk a b c d && dOk e f g h, .tup [.agg (digL (dv a b c d + dv e f g h)), .int .u64 ((dv a b c d + dv e f g h) / 340282366920938463463374607431768211456)], [], [])
  | _, _ => none
def cMinusN : List SV → List (Option SB) → OutIf
  | [.agg [.int .u64 a, .int .u64 b, .int .u64 c, .int .u64 d], .agg [.int .u64 e, .int .u64 f, .int .u64 g, .int .u64 h]], [] =>
    some (dOk a b c d && dOk e f g h && decide (dv e f g h ≤ dv a b c d), .agg (digL (dv a b c d - dv e f g h)), [], [])
  | _, _ => none
def cZeroN : List SV → List (Option SB) → Out
  | [.agg [.bool _, .int .u64 a, .int .u64 b, .int .u64 c, .int .u64 d]], [] => some (.bool (dv a b c d == 0), [], [])
  | _, _ => none
def cWordsN : List SV → List (Option SB) → KC → Prop
  | [.agg [.bool s, .int .u64 a, .int .u64 b, .int .u64 c, .int .u64 d]], [], K => If (dOk a b c d) (∀ h l : Int, K (.tup [.int .i64 h, .int .u64 l, .bool (in128 (nv s a b c d))]) [] [])
  | _, _, _ => False
def cOfN : List SV → List (Option SB) → Out
  | [.int .i64 n], [] => some (nSV n, [], [])
  | _, _ => none
def cSignN : List SV → List (Option SB) → Out
  | [.agg [.bool s, .int .u64 a, .int .u64 b, .int .u64 c, .int .u64 d]], [] => some (.int .i64 (cmpI (nv s a b c d) 0), [], [])
  | _, _ => none
theorem in128_iff (x : Int) : in128 x = true ↔ -170141183460469231731687303715884105728 ≤ x ∧ x < 170141183460469231731687303715884105728 := by
  unfold in128; simp only [Bool.and_eq_true, decide_eq_true_eq]
end Go.Se
namespace Go.Se
def dvS (X : Int) : Int := dv (X % 4294967296) (X / 4294967296 % 4294967296) (X / 18446744073709551616 % 4294967296) (X / 79228162514264337593543950336 % 4294967296)
def dOkD (X : Int) : Bool := dOk (X % 4294967296) (X / 4294967296 % 4294967296) (X / 18446744073709551616 % 4294967296) (X / 79228162514264337593543950336 % 4294967296)
def nvD (s : Bool) (X : Int) : Int := nv s (X % 4294967296) (X / 4294967296 % 4294967296) (X / 18446744073709551616 % 4294967296) (X / 79228162514264337593543950336 % 4294967296)
theorem dOkD_eq (X : Int) : dOkD X = true := dOk_dig X
theorem dvS_eq {X : Int} (h0 : 0 ≤ X) (h1 : X < 340282366920938463463374607431768211456) : dvS X = X := dv_dig h0 h1
theorem nvD_eq {s : Bool} {X : Int} (h0 : 0 ≤ X) (h1 : X < 340282366920938463463374607431768211456) : nvD s X = bif s then -X else X := by
  unfold nvD nv; rw [dv_dig h0 h1]
def nvX (x : Int) : Int := nv (decide (x < 0)) (absI x % 4294967296) (absI x / 4294967296 % 4294967296) (absI x / 18446744073709551616 % 4294967296) (absI x / 79228162514264337593543950336 % 4294967296)
def okX (x : Int) : Bool := dOkD (absI x)
def nilN : SV := .agg [.bool false, .int .u64 0, .int .u64 0, .int .u64 0, .int .u64 0]
def sumG (ok n : Bool) (X : Int) (K : KC) : Prop :=
  If (dOkD X) (∀ _h _l : Int, Br (!ok) (K (.tup [nilN, .bool false]) [] []) (Br (!in128 (nvD n X)) (K (.tup [nilN, .bool false]) [] []) (K (.tup [.agg (.bool n :: digL X), .bool true]) [] [])))
def sumF (ok n : Bool) (X : Int) (K : KC) : Prop := Br (dvS X == 0) (sumG ok false X K) (sumG ok n X K)
def cAddN : List SV → List (Option SB) → OutIf
  | [.agg [.bool s, .int .u64 a, .int .u64 b, .int .u64 c, .int .u64 d], .agg [.bool t, .int .u64 e, .int .u64 f, .int .u64 g, .int .u64 h]], [] =>
    some (dOk a b c d && dOk e f g h, .tup [nSV (bif in128 (nv s a b c d + nv t e f g h) then nv s a b c d + nv t e f g h else 0), .bool (in128 (nv s a b c d + nv t e f g h))], [], [])
  | _, _ => none
def cCmpN : List SV → List (Option SB) → OutIf
  | [.agg [.bool s, .int .u64 a, .int .u64 b, .int .u64 c, .int .u64 d], .agg [.bool t, .int .u64 e, .int .u64 f, .int .u64 g, .int .u64 h]], [] =>
    some (dOk a b c d && dOk e f g h, .int .i64 (cmpI (nv s a b c d) (nv t e f g h)), [], [])
  | _, _ => none
end Go.Se
namespace Go.Se
abbrev K4 := Int → Int → Int → Int → Prop
def sOf (p c : Int) : Int := IntKind.u64.wrap (p + c % 4294967296)
def cOf2 (c s : Int) : Int := IntKind.u64.wrap (IntKind.u64.wrap (c.tdiv 4294967296) + IntKind.u64.wrap (s.tdiv 4294967296))
def ad3 (K : K4) (p0 p1 p2 p3 c : Int) : Prop := Br (decide (c > 0)) (K p0 p1 p2 (sOf p3 c % 4294967296)) (K p0 p1 p2 p3)
def ad2 (K : K4) (p0 p1 p2 p3 c : Int) : Prop := Br (decide (c > 0)) (ad3 K p0 p1 (sOf p2 c % 4294967296) p3 (cOf2 c (sOf p2 c))) (K p0 p1 p2 p3)
def ad1 (K : K4) (p0 p1 p2 p3 c : Int) : Prop := Br (decide (c > 0)) (ad2 K p0 (sOf p1 c % 4294967296) p2 p3 (cOf2 c (sOf p1 c))) (K p0 p1 p2 p3)
def ad0 (K : K4) (p0 p1 p2 p3 c : Int) : Prop := Br (decide (c > 0)) (ad1 K (sOf p0 c % 4294967296) p1 p2 p3 (cOf2 c (sOf p0 c))) (K p0 p1 p2 p3)
def mulD (l0 l1 m0 m1 : Int) (K : K4) : Prop :=
  ad0 (fun p0 p1 p2 p3 => ad1 (fun p0 p1 p2 p3 => ad1 (fun p0 p1 p2 p3 => ad2 K p0 p1 p2 p3 (IntKind.u64.wrap (l1 * m1))) p0 p1 p2 p3 (IntKind.u64.wrap (l1 * m0))) p0 p1 p2 p3 (IntKind.u64.wrap (l0 * m1))) 0 0 0 0 (IntKind.u64.wrap (l0 * m0))
/-- Four parts of a number. -/
structure Is4 (X a b c d : Int) : Prop where
  a0 : 0 ≤ a
  a1 : a < 4294967296
  b0 : 0 ≤ b
  b1 : b < 4294967296
  c0 : 0 ≤ c
  c1 : c < 4294967296
  d0 : 0 ≤ d
  d1 : d < 4294967296
  eq : dv a b c d = X
theorem Is4.list {X a b c d : Int} (h : Is4 X a b c d) : ([.int .u64 a, .int .u64 b, .int .u64 c, .int .u64 d] : List SV) = digL X :=
  dig_eq (dOk_iff.2 ⟨h.a1, h.b1, h.c1, h.d1⟩) h.a0 h.b0 h.c0 h.d0 h.eq
theorem adS {p c : Int} (hp : 0 ≤ p) (hp' : p < 4294967296) (hc : 0 ≤ c) (hc' : c < 18446744073709551616) : sOf p c % 4294967296 = (p + c) % 4294967296 ∧ cOf2 c (sOf p c) = (p + c) / 4294967296 := by
  unfold cOf2 sOf
  rw [u64_tdiv, Int.tdiv_eq_ediv_of_nonneg hc]
  simp only [wu64]
  omega
theorem ad3_law {K : K4} {X a b c d u : Int} (h : Is4 X a b c d) (hu : 0 ≤ u) (hX : X + u * 79228162514264337593543950336 < 340282366920938463463374607431768211456) (hK : ∀ a b c d, Is4 (X + u * 79228162514264337593543950336) a b c d → K a b c d) : ad3 K a b c d u := by
  obtain ⟨a0, a1, b0, b1, c0, c1, d0, d1, eq⟩ := h
  unfold dv at eq
  refine Br.of (fun c => hK _ _ _ _ ?_) fun c => hK _ _ _ _ ?_
  · rw [(adS d0 d1 hu (by omega)).1]
    exact ⟨a0, a1, b0, b1, c0, c1, by omega, by omega, by unfold dv; omega⟩
  · have := of_decide_eq_false c
    exact ⟨a0, a1, b0, b1, c0, c1, d0, d1, by unfold dv; omega⟩
theorem ad2_law {K : K4} {X a b c d u : Int} (h : Is4 X a b c d) (hu : 0 ≤ u) (hu' : u < 18446744073709551616) (hX : X + u * 18446744073709551616 < 340282366920938463463374607431768211456) (hK : ∀ a b c d, Is4 (X + u * 18446744073709551616) a b c d → K a b c d) : ad2 K a b c d u := by
  obtain ⟨a0, a1, b0, b1, c0, c1, d0, d1, eq⟩ := h
  have h := adS c0 c1 hu hu'
  unfold dv at eq
  refine Br.of (fun _ => ?_) fun c => hK _ _ _ _ ?_
  · rw [h.1, h.2]
    have e : a + b * 4294967296 + (c + u) % 4294967296 * 18446744073709551616 + d * 79228162514264337593543950336 + (c + u) / 4294967296 * 79228162514264337593543950336 = X + u * 18446744073709551616 := by omega
    refine ad3_law (X := a + b * 4294967296 + (c + u) % 4294967296 * 18446744073709551616 + d * 79228162514264337593543950336) ⟨a0, a1, b0, b1, by omega, by omega, d0, d1, rfl⟩ (by omega) (by omega) ?_
    rw [e]; exact hK
  · have := of_decide_eq_false c
    exact ⟨a0, a1, b0, b1, c0, c1, d0, d1, by unfold dv; omega⟩
theorem ad1_law {K : K4} {X a b c d u : Int} (h : Is4 X a b c d) (hu : 0 ≤ u) (hu' : u < 18446744073709551616) (hX : X + u * 4294967296 < 340282366920938463463374607431768211456) (hK : ∀ a b c d, Is4 (X + u * 4294967296) a b c d → K a b c d) : ad1 K a b c d u := by
  obtain ⟨a0, a1, b0, b1, c0, c1, d0, d1, eq⟩ := h
  have h := adS b0 b1 hu hu'
  unfold dv at eq
  refine Br.of (fun _ => ?_) fun c => hK _ _ _ _ ?_
  · rw [h.1, h.2]
    have e : a + (b + u) % 4294967296 * 4294967296 + c * 18446744073709551616 + d * 79228162514264337593543950336 + (b + u) / 4294967296 * 18446744073709551616 = X + u * 4294967296 := by omega
    refine ad2_law (X := a + (b + u) % 4294967296 * 4294967296 + c * 18446744073709551616 + d * 79228162514264337593543950336) ⟨a0, a1, by omega, by omega, c0, c1, d0, d1, rfl⟩ (by omega) (by omega) (by omega) ?_
    rw [e]; exact hK
  · have := of_decide_eq_false c
    exact ⟨a0, a1, b0, b1, c0, c1, d0, d1, by unfold dv; omega⟩
theorem ad0_law {K : K4} {X a b c d u : Int} (h : Is4 X a b c d) (hu : 0 ≤ u) (hu' : u < 18446744073709551616) (hX : X + u < 340282366920938463463374607431768211456) (hK : ∀ a b c d, Is4 (X + u) a b c d → K a b c d) : ad0 K a b c d u := by
  obtain ⟨a0, a1, b0, b1, c0, c1, d0, d1, eq⟩ := h
  have h := adS a0 a1 hu hu'
  unfold dv at eq
  refine Br.of (fun _ => ?_) fun c => hK _ _ _ _ ?_
  · rw [h.1, h.2]
    have e : (a + u) % 4294967296 + b * 4294967296 + c * 18446744073709551616 + d * 79228162514264337593543950336 + (a + u) / 4294967296 * 4294967296 = X + u := by omega
    refine ad1_law (X := (a + u) % 4294967296 + b * 4294967296 + c * 18446744073709551616 + d * 79228162514264337593543950336) ⟨by omega, by omega, b0, b1, c0, c1, d0, d1, rfl⟩ (by omega) (by omega) (by omega) ?_
    rw [e]; exact hK
  · have := of_decide_eq_false c
    exact ⟨a0, a1, b0, b1, c0, c1, d0, d1, by unfold dv; omega⟩
theorem mulD_law {K : K4} {x y : Int} (hx : 0 ≤ x) (hx' : x ≤ 18446744073709551615) (hy : 0 ≤ y) (hy' : y ≤ 18446744073709551615) (hK : ∀ a b c d, Is4 (x * y) a b c d → K a b c d) :
    mulD (x % 4294967296) (x / 4294967296) (y % 4294967296) (y / 4294967296) K := by
  obtain ⟨h0, h1, h2, h3, h4, h5, h6, h7, h8⟩ := mul_hi hx hx' hy hy' rfl rfl rfl rfl
  unfold mulD
  simp only [wu64]
  generalize x / 4294967296 * (y / 4294967296) = p at *
  generalize x / 4294967296 * (y % 4294967296) = q at *
  generalize x % 4294967296 * (y / 4294967296) = r at *
  generalize x % 4294967296 * (y % 4294967296) = s at *
  rw [show s % 18446744073709551616 = s by omega, show r % 18446744073709551616 = r by omega, show q % 18446744073709551616 = q by omega, show p % 18446744073709551616 = p by omega]
  refine ad0_law (X := 0) ⟨by omega, by omega, by omega, by omega, by omega, by omega, by omega, by omega, by unfold dv; omega⟩ (by omega) (by omega) (by omega) fun a b c d h => ?_
  refine ad1_law h (by omega) (by omega) (by omega) fun a b c d h => ?_
  refine ad1_law h (by omega) (by omega) (by omega) fun a b c d h => ?_
  refine ad2_law h (by omega) (by omega) (by omega) fun a b c d h => ?_
  exact hK _ _ _ _ (by rw [h0, show p * 18446744073709551616 + (q + r) * 4294967296 + s = 0 + s + r * 4294967296 + q * 4294967296 + p * 18446744073709551616 by omega]; exact h)
theorem absI_mul (a b : Int) : absI a * absI b = absI (a * b) := by
  have h : ∀ x : Int, absI x = (x.natAbs : Int) := fun x => by
    unfold absI
    cases h : decide (x < 0)
    · have := of_decide_eq_false h; simp only [cond_false]; omega
    · have := of_decide_eq_true h; simp only [cond_true]; omega
  rw [h, h, h, Int.natAbs_mul]; rfl
def cMulN : List SV → List (Option SB) → Out
  | [.int .i64 a, .int .i64 b], [] => some (nSV (a * b), [], [])
  | _, _ => none
def cSquareN : List SV → List (Option SB) → Out
  | [.int .u64 n], [] => some (.agg (digL (n * n)), [], [])
  | _, _ => none
end Go.Se

/- Part 32: such numbers bit by bit: plain. -/
namespace Go.Se
def twiceG (a b c d bit : Int) : Bool := dOk a b c d && decide (bit ≤ 1)
def cTwiceN : List SV → List (Option SB) → OutIf
  | [.agg [.int .u64 a, .int .u64 b, .int .u64 c, .int .u64 d], .int .u64 k], [] => some (twiceG a b c d k, .agg (digL (2 * dv a b c d + k)), [], [])
  | _, _ => none
def bitE (n : Nat) (a b c d : Int) : Int := ((match n / 32 with | 0 => a | 1 => b | 2 => c | _ => d).fdiv (2 ^ (n % 32))).tmod 2
def bitV (X : Int) (i : Int) : Int := X / 2 ^ i.toNat % 2
def bitG (a b c d i : Int) : Bool := dOk a b c d && (decide (0 ≤ i) && decide (i ≤ 127))
def cBitN : List SV → List (Option SB) → OutIf
  | [.agg [.int .u64 a, .int .u64 b, .int .u64 c, .int .u64 d], .int .i64 i], [] => some (bitG a b c d i, .int .u64 (bitV (dv a b c d) i), [], [])
  | _, _ => none
theorem bit32 (V : Int) : ∀ r : Nat, r < 32 → (V % 4294967296) / 2 ^ r % 2 = V / 2 ^ r % 2
  | 0, _ => by show (V % 4294967296) / 1 % 2 = V / 1 % 2; omega
  | 1, _ => by show (V % 4294967296) / 2 % 2 = V / 2 % 2; omega
  | 2, _ => by show (V % 4294967296) / 4 % 2 = V / 4 % 2; omega
  | 3, _ => by show (V % 4294967296) / 8 % 2 = V / 8 % 2; omega
  | 4, _ => by show (V % 4294967296) / 16 % 2 = V / 16 % 2; omega
  | 5, _ => by show (V % 4294967296) / 32 % 2 = V / 32 % 2; omega
  | 6, _ => by show (V % 4294967296) / 64 % 2 = V / 64 % 2; omega
  | 7, _ => by show (V % 4294967296) / 128 % 2 = V / 128 % 2; omega
  | 8, _ => by show (V % 4294967296) / 256 % 2 = V / 256 % 2; omega
  | 9, _ => by show (V % 4294967296) / 512 % 2 = V / 512 % 2; omega
  | 10, _ => by show (V % 4294967296) / 1024 % 2 = V / 1024 % 2; omega
  | 11, _ => by show (V % 4294967296) / 2048 % 2 = V / 2048 % 2; omega
  | 12, _ => by show (V % 4294967296) / 4096 % 2 = V / 4096 % 2; omega
  | 13, _ => by show (V % 4294967296) / 8192 % 2 = V / 8192 % 2; omega
  | 14, _ => by show (V % 4294967296) / 16384 % 2 = V / 16384 % 2; omega
  | 15, _ => by show (V % 4294967296) / 32768 % 2 = V / 32768 % 2; omega
  | 16, _ => by show (V % 4294967296) / 65536 % 2 = V / 65536 % 2; omega
  | 17, _ => by show (V % 4294967296) / 131072 % 2 = V / 131072 % 2; omega
  | 18, _ => by show (V % 4294967296) / 262144 % 2 = V / 262144 % 2; omega
  | 19, _ => by show (V % 4294967296) / 524288 % 2 = V / 524288 % 2; omega
  | 20, _ => by show (V % 4294967296) / 1048576 % 2 = V / 1048576 % 2; omega
  | 21, _ => by show (V % 4294967296) / 2097152 % 2 = V / 2097152 % 2; omega
  | 22, _ => by show (V % 4294967296) / 4194304 % 2 = V / 4194304 % 2; omega
  | 23, _ => by show (V % 4294967296) / 8388608 % 2 = V / 8388608 % 2; omega
  | 24, _ => by show (V % 4294967296) / 16777216 % 2 = V / 16777216 % 2; omega
  | 25, _ => by show (V % 4294967296) / 33554432 % 2 = V / 33554432 % 2; omega
  | 26, _ => by show (V % 4294967296) / 67108864 % 2 = V / 67108864 % 2; omega
  | 27, _ => by show (V % 4294967296) / 134217728 % 2 = V / 134217728 % 2; omega
  | 28, _ => by show (V % 4294967296) / 268435456 % 2 = V / 268435456 % 2; omega
  | 29, _ => by show (V % 4294967296) / 536870912 % 2 = V / 536870912 % 2; omega
  | 30, _ => by show (V % 4294967296) / 1073741824 % 2 = V / 1073741824 % 2; omega
  | 31, _ => by show (V % 4294967296) / 2147483648 % 2 = V / 2147483648 % 2; omega
  | r + 32, h => absurd h (by omega)
theorem bitE_eq {a b c d X : Int} (h : Is4 X a b c d) {n : Nat} (hn : n < 128) : bitE n a b c d = X / 2 ^ n % 2 := by
  obtain ⟨a0, a1, b0, b1, c0, c1, d0, d1, eq⟩ := h
  unfold dv at eq
  have hp : ∀ k : Nat, (0 : Int) < 2 ^ k := fun k => Int.pow_pos (by decide)
  have key : ∀ (x : Int) (j : Nat), 0 ≤ x → x = X / 2 ^ (32 * j) % 4294967296 → n = 32 * j + n % 32 → (x.fdiv (2 ^ (n % 32))).tmod 2 = X / 2 ^ n % 2 := fun x j h0 hx hj => by
    rw [fdiv_pos _ (Int.le_of_lt (hp _)), Int.tmod_eq_emod_of_nonneg (Int.ediv_nonneg h0 (Int.le_of_lt (hp _))), hx, bit32 _ _ (Nat.mod_lt _ (by decide)), Int.ediv_ediv_of_nonneg (Int.le_of_lt (hp _)), ← Int.pow_add, ← hj]
  unfold bitE
  have h4 : n / 32 = 0 ∨ n / 32 = 1 ∨ n / 32 = 2 ∨ n / 32 = 3 := by omega
  rcases h4 with h | h | h | h <;> rw [h]
  · exact key a 0 a0 (by simp; omega) (by omega)
  · exact key b 1 b0 (by show b = X / 4294967296 % 4294967296; omega) (by omega)
  · exact key c 2 c0 (by show c = X / 18446744073709551616 % 4294967296; omega) (by omega)
  · exact key d 3 d0 (by show d = X / 79228162514264337593543950336 % 4294967296; omega) (by omega)
def overG (a b c d e f g h : Int) : Bool := (dOk a b c d && dOk e f g h) && (decide (0 < dv e f g h) && decide (dv e f g h < 170141183460469231731687303715884105728))
def cOverN : List SV → List (Option SB) → OutIf
  | [.agg [.int .u64 a, .int .u64 b, .int .u64 c, .int .u64 d], .agg [.int .u64 e, .int .u64 f, .int .u64 g, .int .u64 h]], [] =>
    some (overG a b c d e f g h, .tup [.agg (digL (dv a b c d / dv e f g h)), .agg (digL (dv a b c d % dv e f g h))], [], [])
  | _, _ => none
/-- A bit more: the quotient and the rest. -/
theorem over_step {A B : Int} {n : Nat} (hA : 0 ≤ A) (hB : 0 < B) : ∃ Q R b : Int, Q = A / 2 ^ (n + 1) / B ∧ R = A / 2 ^ (n + 1) % B ∧ b = A / 2 ^ n % 2 ∧ 0 ≤ Q ∧ 0 ≤ R ∧ R < B ∧ 0 ≤ b ∧ b ≤ 1 ∧
    (2 * R + b < B → A / 2 ^ n / B = 2 * Q ∧ A / 2 ^ n % B = 2 * R + b) ∧ (B ≤ 2 * R + b → A / 2 ^ n / B = 2 * Q + 1 ∧ A / 2 ^ n % B = 2 * R + b - B) := by
  have hp : ∀ k : Nat, (0 : Int) < 2 ^ k := fun k => Int.pow_pos (by decide)
  have h2 : A / 2 ^ (n + 1) = A / 2 ^ n / 2 := by rw [Int.pow_succ, Int.ediv_ediv_of_nonneg (Int.le_of_lt (hp n))]
  have hX : 0 ≤ A / 2 ^ n := Int.ediv_nonneg hA (Int.le_of_lt (hp n))
  rw [h2]
  generalize A / 2 ^ n = X at *
  refine ⟨_, _, _, rfl, rfl, rfl, Int.ediv_nonneg (by omega) (by omega), Int.emod_nonneg _ (by omega), Int.emod_lt_of_pos _ hB, by omega, by omega, ?_, ?_⟩
  all_goals
    have e := Int.mul_ediv_add_emod (X / 2) B
    have hr0 := Int.emod_nonneg (X / 2) (show B ≠ 0 by omega)
    have hr1 := Int.emod_lt_of_pos (X / 2) hB
    generalize X / 2 / B = Q at *
    generalize X / 2 % B = R at *
    have hX2 : X = 2 * (B * Q) + (2 * R + X % 2) := by omega
    intro hlt
  · have : X = (2 * R + X % 2) + B * (2 * Q) := by rw [show B * (2 * Q) = 2 * (B * Q) by grind]; omega
    have hd : X / B = 2 * Q := by
      rw [this, Int.add_mul_ediv_left _ _ (by omega), Int.ediv_eq_zero_of_lt (by omega) (by omega)]; omega
    refine ⟨hd, ?_⟩
    have := Int.mul_ediv_add_emod X B
    rw [hd, show B * (2 * Q) = 2 * (B * Q) by grind] at this
    omega
  · have : X = (2 * R + X % 2 - B) + B * (2 * Q + 1) := by rw [show B * (2 * Q + 1) = 2 * (B * Q) + B by grind]; omega
    have hd : X / B = 2 * Q + 1 := by
      rw [this, Int.add_mul_ediv_left _ _ (by omega), Int.ediv_eq_zero_of_lt (by omega) (by omega)]; omega
    refine ⟨hd, ?_⟩
    have := Int.mul_ediv_add_emod X B
    rw [hd, show B * (2 * Q + 1) = 2 * (B * Q) + B by grind] at this
    omega
def cRootN : List SV → List (Option SB) → OutIf
  | [.agg [.bool s, .int .u64 a, .int .u64 b, .int .u64 c, .int .u64 d]], [] =>
    some (dOk a b c d && decide (nv s a b c d < 170141183460469231731687303715884105728), .int .u64 (isqrt (nv s a b c d)), [], [])
  | _, _ => none
end Go.Se

/- Part 33: quotients of such numbers: plain. -/
namespace Go.Se
def eq4 (X Y : Int) : Bool := X % 4294967296 == Y % 4294967296 && (X / 4294967296 % 4294967296 == Y / 4294967296 % 4294967296 && (X / 18446744073709551616 % 4294967296 == Y / 18446744073709551616 % 4294967296 && X / 79228162514264337593543950336 % 4294967296 == Y / 79228162514264337593543950336 % 4294967296))
def twoW (Q : Int) : Int := IntKind.u64.wrap (IntKind.u64.wrap (Q / 4294967296 % 4294967296 * 4294967296) + Q % 4294967296)
def fiN (neg : Bool) (Q : Int) (K : KC) : Prop :=
  Br (Q / 18446744073709551616 % 4294967296 != 0) (dvNo K) (Br (Q / 79228162514264337593543950336 % 4294967296 != 0) (dvNo K)
    (Br neg (Br (decide (twoW Q > 9223372036854775808)) (dvNo K) (K (.tup [.int .i64 (IntKind.i64.wrap (IntKind.u64.wrap (0 - twoW Q))), .bool true]) [] []))
      (Br (decide (twoW Q > 9223372036854775807)) (dvNo K) (K (.tup [.int .i64 (IntKind.i64.wrap (twoW Q)), .bool true]) [] []))))
def overGD (a b c d B : Int) : Bool := overG a b c d (B % 4294967296) (B / 4294967296 % 4294967296) (B / 18446744073709551616 % 4294967296) (B / 79228162514264337593543950336 % 4294967296)
def twiceGD (X : Int) : Bool := twiceG (X % 4294967296) (X / 4294967296 % 4294967296) (X / 18446744073709551616 % 4294967296) (X / 79228162514264337593543950336 % 4294967296) 0
def divX (s t : Bool) (a b c d B : Int) (K : KC) : Prop :=
  If (overGD a b c d B) (If (twiceGD (dv a b c d % dvS B)) (If (dOkD B && dOkD (2 * dvS (dv a b c d % dvS B) + 0))
    ((fun UP DOWN => Br (decide (dvS B < dvS (2 * dvS (dv a b c d % dvS B) + 0))) UP (Br (eq4 (2 * dvS (dv a b c d % dvS B) + 0) B) (Br ((dv a b c d / dvS B % 4294967296).tmod 2 == 1) UP DOWN) DOWN))
      (If (dOkD (dv a b c d / dvS B) && dOk 1 0 0 0) (fiN (!(s == t)) (dvS (dv a b c d / dvS B) + dv 1 0 0 0) K)) (fiN (!(s == t)) (dv a b c d / dvS B) K))))
theorem in64_iff (x : Int) : in64 x = true ↔ -9223372036854775808 ≤ x ∧ x ≤ 9223372036854775807 := by unfold in64; simp only [Bool.and_eq_true, decide_eq_true_eq]
theorem fiN_law {neg : Bool} {Q v : Int} {K : KC} (h0 : 0 ≤ Q) (h1 : Q < 340282366920938463463374607431768211456) (hv : v = bif neg then -Q else Q)
    (hK : K (.tup [.int .i64 (bif in64 v then v else 0), .bool (in64 v)]) [] []) : fiN neg Q K := by
  have hno : (v < -9223372036854775808 ∨ 9223372036854775807 < v) → dvNo K := fun h => by
    have : in64 v = false := by
      cases hi : in64 v with
      | false => rfl
      | true => have := (in64_iff v).1 hi; omega
    rw [this] at hK; exact hK
  have hyes : ∀ w : Int, -9223372036854775808 ≤ v → v ≤ 9223372036854775807 → w = v → K (.tup [.int .i64 w, .bool true]) [] [] := fun w h h' e => by
    rw [(in64_iff v).2 ⟨h, h'⟩] at hK; rw [e]; exact hK
  have hw : Q < 18446744073709551616 → twoW Q = Q := fun h => by unfold twoW; simp only [wu64]; omega
  unfold fiN
  refine Br.of (fun c => hno ?_) fun c => Br.of (fun d => hno ?_) fun d => ?_
  · have := bne_iff_ne.1 c
    cases neg <;> simp only [cond_true, cond_false] at hv <;> omega
  · have := bne_iff_ne.1 d
    cases neg <;> simp only [cond_true, cond_false] at hv <;> omega
  · have c' := bne_eq_false_iff_eq.1 c
    have d' := bne_eq_false_iff_eq.1 d
    rw [hw (by omega)]
    refine Br.of (fun e => Br.of (fun f => hno ?_) fun f => hyes _ ?_ ?_ ?_) fun e => Br.of (fun f => hno ?_) fun f => hyes _ ?_ ?_ ?_ <;> rw [e] at hv <;> simp only [cond_true, cond_false, decide_eq_true_eq, decide_eq_false_iff_not] at hv f <;> (try simp only [wu64, wi64]) <;> omega
theorem eq4_iff {X Y : Int} (h0 : 0 ≤ X) (h1 : X < 340282366920938463463374607431768211456) (h2 : 0 ≤ Y) (h3 : Y < 340282366920938463463374607431768211456) : eq4 X Y = decide (X = Y) := by
  rw [Bool.eq_iff_iff]
  unfold eq4
  simp only [Bool.and_eq_true, beq_iff_eq, decide_eq_true_eq]
  omega
theorem divX_law {s t : Bool} {a b c d A B v : Int} {K : KC} (hA : Is4 A a b c d) (hB : 0 < B) (hB1 : B < 170141183460469231731687303715884105728) (hv : v = bif !(s == t) then -rneQ A B else rneQ A B)
    (hK : K (.tup [.int .i64 (bif in64 v then v else 0), .bool (in64 v)]) [] []) : divX s t a b c d B K := by
  have hA0 : 0 ≤ A := by rw [← hA.eq]; have := hA.a0; have := hA.b0; have := hA.c0; have := hA.d0; unfold dv; omega
  have hA1 : A < 340282366920938463463374607431768211456 := by rw [← hA.eq]; have := hA.a1; have := hA.b1; have := hA.c1; have := hA.d1; unfold dv; omega
  have hS : dvS B = B := dvS_eq (by omega) (by omega)
  have hr0 := Int.emod_nonneg A (show B ≠ 0 by omega)
  have hr1 := Int.emod_lt_of_pos A hB
  have hq0 := Int.ediv_nonneg hA0 (Int.le_of_lt hB)
  have hq1 := Int.ediv_le_self B hA0
  have hm := Int.mul_ediv_add_emod A B
  unfold divX
  rw [hA.eq, hS, dvS_eq hr0 (by omega), dvS_eq (show 0 ≤ 2 * (A % B) + 0 by omega) (by omega), eq4_iff (by omega) (by omega) (by omega) (by omega), dOkD_eq, dOkD_eq, dOkD_eq, dvS_eq hq0 (by omega)]
  refine If.mk ?_ (If.mk ?_ (If.mk rfl ?_))
  · have := dvS_eq (show 0 ≤ B by omega) (show B < 340282366920938463463374607431768211456 by omega)
    unfold dvS at this
    unfold overGD overG
    rw [this, dOk_dig, show dOk a b c d = true from dOk_iff.2 ⟨hA.a1, hA.b1, hA.c1, hA.d1⟩]
    simp only [Bool.true_and, Bool.and_eq_true, decide_eq_true_eq]; omega
  · unfold twiceGD twiceG; rw [dOk_dig]; rfl
  · have hup : (B < 2 * (A % B) ∨ B = 2 * (A % B) ∧ A / B % 2 = 1) → If (true && dOk 1 0 0 0) (fiN (!(s == t)) (A / B + dv 1 0 0 0) K) := fun h => If.mk rfl (by
      have hB2 : 2 ≤ B := by omega
      have h2 : 2 * (A / B) ≤ B * (A / B) := Int.mul_le_mul_of_nonneg_right hB2 hq0
      refine fiN_law (v := v) (by unfold dv; omega) (by unfold dv; omega) ?_ hK
      have : rneQ A B = A / B + 1 := by
        unfold rneQ
        rw [show (decide (A % B > B - A % B) || (A % B == B - A % B && A / B % 2 == 1)) = true by
          rcases h with h | ⟨h, h'⟩
          · rw [decide_eq_true (by omega)]; rfl
          · rw [h', show (A % B == B - A % B) = true by rw [beq_iff_eq]; omega]; simp, decide_eq_true (show A % B > 0 by omega)]; rfl
      rw [hv, this]; rfl)
    have hdn : ¬ (B < 2 * (A % B) ∨ B = 2 * (A % B) ∧ A / B % 2 = 1) → fiN (!(s == t)) (A / B) K := fun h => by
      refine fiN_law (v := v) hq0 (by omega) ?_ hK
      have : rneQ A B = A / B := by
        unfold rneQ
        rw [show (decide (A % B > B - A % B) || (A % B == B - A % B && A / B % 2 == 1)) = false by
          rw [decide_eq_false (by omega), Bool.false_or]
          cases h1 : A % B == B - A % B with
          | false => rfl
          | true =>
            rw [beq_iff_eq] at h1
            rw [Bool.true_and, beq_eq_false_iff_ne]
            omega]; rfl
      rw [hv, this]
    show Br _ _ (Br _ (Br _ _ _) _)
    have htm : (A / B % 4294967296).tmod 2 = A / B % 2 := by rw [Int.tmod_eq_emod_of_nonneg (by omega)]; omega
    rw [htm]
    refine Br.of (fun e => hup ?_) fun e => Br.of (fun f => Br.of (fun g => hup ?_) fun g => hdn ?_) fun f => hdn ?_ <;>
      (try simp only [decide_eq_true_eq, decide_eq_false_iff_not] at e) <;> (try simp only [decide_eq_true_eq, decide_eq_false_iff_not] at f) <;> (try simp only [beq_iff_eq, beq_eq_false_iff_ne, ne_eq] at g) <;> omega
def cDivN : List SV → List (Option SB) → OutIf
  | [.agg [.bool s, .int .u64 a, .int .u64 b, .int .u64 c, .int .u64 d], .int .i64 e], [] =>
    some (dOk a b c d, .tup [.int .i64 (divV (nv s a b c d) e), .bool (divGood (nv s a b c d) e)], [], [])
  | _, _ => none
end Go.Se

