/- A track's data, and what its parts come to. -/
import Derived.Test.YtbedljhbakdghaaGreatDoorSeArith
import Derived.Test.YtbedljhbakdghaaGreatDoorSeTrig
import Derived.Test.YtbedljhbakdghaaGreatDoorSeNum
import Derived.Test.YtbedljhbakdghaaGreatDoorSeFrz
namespace Go.Se

/-- A track, as it comes in. -/
structure Trk where
  rate : Int
  cell : Int
  cols : Int
  rows : Int
  cx : Int
  cy : Int
  nh : Nat
  h : Nat → Int
  ng : Nat
  g : Nat → Int
  nk : Nat
  kg : Nat → Int
  kd : Nat → Int
  ko : Nat → Bool
  nl : Nat
  lx : Nat → Int
  ly : Nat → Int
  nr : Nat
  rn : Nat → Nat
  rx : Nat → Nat → Int
  ry : Nat → Nat → Int
  nt : Nat
  ax : Nat → Int
  ay : Nat → Int
  bx : Nat → Int
  sb : Nat → Int
  sp : Nat → Bool
  sx : Int
  sy : Int
  head : Int
  laps : Int

def ptsG (x y : Nat → Int) : Nat → List SV := fun k => [.int .i64 (x k), .int .i64 (y k)]
def railG (t : Trk) : Nat → List SV := fun i => [.ro (t.rn i) 2 (ptsG (t.rx i) (t.ry i))]
def gateG (t : Trk) : Nat → List SV := fun i => [.int .i64 (t.ax i), .int .i64 (t.ay i), .int .i64 (t.bx i), .int .i64 (t.sb i), .bool (t.sp i)]
def kindG (t : Trk) : Nat → List SV := fun i => [.int .i64 (t.kg i), .int .i64 (t.kd i), .bool (t.ko i)]
def oneG (x : Nat → Int) : Nat → List SV := fun i => [.int .i64 (x i)]

/-- Its cells. -/
def trkC (t : Trk) : List SV :=
  [.int .i64 t.rate, .int .i64 t.cell, .int .i64 t.cols, .int .i64 t.rows, .int .i64 t.cx, .int .i64 t.cy, .ro t.nh 1 (oneG t.h), .ro t.ng 1 (oneG t.g), .ro t.nk 3 (kindG t), .ro t.nl 2 (ptsG t.lx t.ly),
   .ro t.nr 1 (railG t), .ro t.nt 5 (gateG t), .int .i64 t.sx, .int .i64 t.sy, .int .u32 t.head, .int .i64 t.laps]

/-! ### Rails' pieces. -/
abbrev Bar := Int × Int × Int × Int × Int
def bsv (b : Bar) : List SV := [.int .i64 b.1, .int .i64 b.2.1, .int .i64 b.2.2.1, .int .i64 b.2.2.2.1, .int .i64 b.2.2.2.2]
def barAt (t : Trk) (i k : Nat) : Bar := (t.rx i k, t.ry i k, t.rx i (k + 1), t.ry i (k + 1), (i : Int))
/-- A rail's pieces from one on, so many. -/
def barsR (t : Trk) (i : Nat) : Nat → Nat → List Bar
  | _, 0 => []
  | k, n + 1 => barAt t i k :: barsR t i (k + 1) n
/-- All rails' pieces from one on. -/
def barsF (t : Trk) : Nat → Nat → List Bar
  | _, 0 => []
  | i, n + 1 => barsR t i 0 (t.rn i - 1) ++ barsF t (i + 1) n
def barsL (t : Trk) : List Bar := barsF t 0 t.nr
def flat (l : List Bar) : List SV := l.flatMap bsv
end Go.Se

/- How far behind a stretch a place is: plain. -/
namespace Go.Se
/-- Divided, and up to the next whole number. -/
def ceilD (n d : Int) : Int := (n + d - 1) / d
def areaV (ax ay bx ey x y : Int) : Int := (bx - ax) * (y - ay) - (ey - ay) * (x - ax)
def dotA (ax ay bx ey x y : Int) : Int := (bx - ax) * (x - ax) + (ey - ay) * (y - ay)
def farT (ax ay bx ey x y : Int) : Bool := farB ax ay || (farB bx ey || farB x y)
def beyV (ax ay bx ey x y : Int) : Int :=
  bif farT ax ay bx ey x y then 0
  else bif decide (0 ≤ areaV ax ay bx ey x y) || (decide (dotA ax ay bx ey x y < 0) || decide (dotA bx ey ax ay x y < 0)) then 0
  else ceilD (-areaV ax ay bx ey x y) (isqrt (dotA ax ay bx ey bx ey))

theorem farB_iff {x y : Int} : farB x y = false ↔ (-281474976710656 ≤ x ∧ x ≤ 281474976710656) ∧ (-281474976710656 ≤ y ∧ y ≤ 281474976710656) := by
  unfold farB
  simp only [Bool.or_eq_false_iff, decide_eq_false_iff_not]
  split <;> split <;> omega
theorem mulB {a b N M : Int} (h1 : -N ≤ a) (h2 : a ≤ N) (h3 : -M ≤ b) (h4 : b ≤ M) : -(N * M) ≤ a * b ∧ a * b ≤ N * M := by
  have e1 := Int.mul_nonneg (show 0 ≤ N - a by omega) (show 0 ≤ M + b by omega)
  have e2 := Int.mul_nonneg (show 0 ≤ N + a by omega) (show 0 ≤ M - b by omega)
  have e3 := Int.mul_nonneg (show 0 ≤ N - a by omega) (show 0 ≤ M - b by omega)
  have e4 := Int.mul_nonneg (show 0 ≤ N + a by omega) (show 0 ≤ M + b by omega)
  simp only [Int.sub_mul, Int.add_mul, Int.mul_add, Int.mul_sub] at e1 e2 e3 e4
  omega
theorem mul49 {a b : Int} (h1 : -562949953421312 ≤ a) (h2 : a ≤ 562949953421312) (h3 : -562949953421312 ≤ b) (h4 : b ≤ 562949953421312) :
    -316912650057057350374175801344 ≤ a * b ∧ a * b ≤ 316912650057057350374175801344 := by
  have := mulB h1 h2 h3 h4
  omega
theorem ceilD_unique {A L q : Int} (hL : 0 < L) (h1 : (q - 1) * L < A) (h2 : A ≤ q * L) : ceilD A L = q := by
  unfold ceilD
  have a1 : q ≤ (A + L - 1) / L := by
    rw [Int.le_ediv_iff_mul_le hL]
    rw [Int.sub_mul] at h1; omega
  have a2 : (A + L - 1) / L < q + 1 := by
    rw [Int.ediv_lt_iff_lt_mul hL, Int.add_mul]; omega
  omega
/-- Rounded to the nearest, then up. -/
theorem ceil_rne {A L : Int} (_hA : 0 ≤ A) (hL : 0 < L) : (bif decide (rneQ A L * L < A) then rneQ A L + 1 else rneQ A L) = ceilD A L := by
  have h1 := Int.ediv_mul_add_emod A L
  have h2 := Int.emod_nonneg A (show L ≠ 0 by omega)
  have h3 := Int.emod_lt_of_pos A hL
  unfold rneQ
  cases hc : (decide (A % L > L - A % L) || (A % L == L - A % L && A / L % 2 == 1)) && decide (A % L > 0) with
  | true =>
    simp only [Bool.and_eq_true, decide_eq_true_eq] at hc
    simp only [cond_true]
    have e : (A / L + 1) * L = A / L * L + L := by rw [Int.add_mul, Int.one_mul]
    rw [decide_eq_false (by omega)]
    simp only [cond_false]
    exact (ceilD_unique hL (by rw [show A / L + 1 - 1 = A / L by omega]; omega) (by omega)).symm
  | false =>
    simp only [cond_false]
    cases hd : decide (A / L * L < A) with
    | true =>
      have hd' := of_decide_eq_true hd
      have e : (A / L + 1) * L = A / L * L + L := by rw [Int.add_mul, Int.one_mul]
      simp only [cond_true]
      exact (ceilD_unique hL (by rw [show A / L + 1 - 1 = A / L by omega]; omega) (by omega)).symm
    | false =>
      have hd' := of_decide_eq_false hd
      have e : (A / L - 1) * L = A / L * L - L := by rw [Int.sub_mul, Int.one_mul]
      simp only [cond_false]
      exact (ceilD_unique hL (by omega) (by omega)).symm
/-- The same, bit by bit. -/
def bitsF (A L : Int) : Nat → Int → Int
  | 0, n => n
  | k + 1, n => bif decide ((n + 2 ^ k) * L < A) then bitsF A L k (n + 2 ^ k) else bitsF A L k n
theorem bitsF_ok {A L : Int} : ∀ (k : Nat) (n : Int), n * L < A → A ≤ (n + 2 ^ k) * L → bitsF A L k n * L < A ∧ A ≤ (bitsF A L k n + 1) * L
  | 0, n, h1, h2 => ⟨h1, by rw [Int.pow_zero] at h2; exact h2⟩
  | k + 1, n, h1, h2 => by
    unfold bitsF
    cases hc : decide ((n + 2 ^ k) * L < A) with
    | true =>
      refine bitsF_ok k _ (of_decide_eq_true hc) ?_
      rw [Int.pow_succ] at h2
      rw [show n + 2 ^ k + 2 ^ k = n + 2 ^ k * 2 by omega]; exact h2
    | false => exact bitsF_ok k n h1 (by have := of_decide_eq_false hc; omega)
theorem isqrt_size {x y : Int} (hx : -562949953421312 ≤ x ∧ x ≤ 562949953421312) (hy : -562949953421312 ≤ y ∧ y ≤ 562949953421312) :
    (-isqrt (x * x + y * y) ≤ x ∧ x ≤ isqrt (x * x + y * y)) ∧ (-isqrt (x * x + y * y) ≤ y ∧ y ≤ isqrt (x * x + y * y)) ∧ 0 ≤ isqrt (x * x + y * y) ∧ isqrt (x * x + y * y) ≤ 1125899906842624 := by
  have m1 := mul49 hx.1 hx.2 hx.1 hx.2
  have m2 := mul49 hy.1 hy.2 hy.1 hy.2
  have s1 := sq_pos x
  have s2 := sq_pos y
  obtain ⟨r0, _, r1, r2⟩ := isqrt_ok (N := x * x + y * y) (by omega) (by omega)
  generalize isqrt (x * x + y * y) = L at *
  have key : ∀ z : Int, z * z ≤ x * x + y * y → -L ≤ z ∧ z ≤ L := by
    intro z hz
    constructor
    · refine Int.not_lt.1 fun h => ?_
      have := Int.mul_le_mul (show L + 1 ≤ -z by omega) (show L + 1 ≤ -z by omega) (by omega) (by omega)
      rw [Int.neg_mul_neg] at this; omega
    · refine Int.not_lt.1 fun h => ?_
      have := Int.mul_le_mul (show L + 1 ≤ z by omega) (show L + 1 ≤ z by omega) (by omega) (by omega)
      omega
  refine ⟨key x (by omega), key y (by omega), r0, Int.not_lt.1 fun h => ?_⟩
  have := Int.mul_le_mul (show (1125899906842625 : Int) ≤ L by omega) (show (1125899906842625 : Int) ≤ L by omega) (by omega) (by omega)
  omega
/-- What is known where all is near, and a place is behind. -/
theorem bey_facts {ax ay bx ey x y : Int} (h : farT ax ay bx ey x y = false) :
    ((-562949953421312 ≤ bx - ax ∧ bx - ax ≤ 562949953421312) ∧ (-562949953421312 ≤ ey - ay ∧ ey - ay ≤ 562949953421312)) ∧
    ((-562949953421312 ≤ x - ax ∧ x - ax ≤ 562949953421312) ∧ (-562949953421312 ≤ y - ay ∧ y - ay ≤ 562949953421312)) ∧
    ((-562949953421312 ≤ x - bx ∧ x - bx ≤ 562949953421312) ∧ (-562949953421312 ≤ y - ey ∧ y - ey ≤ 562949953421312)) := by
  unfold farT at h
  rw [Bool.or_eq_false_iff, Bool.or_eq_false_iff] at h
  obtain ⟨h1, h2, h3⟩ := h
  have := farB_iff.1 h1
  have := farB_iff.1 h2
  have := farB_iff.1 h3
  omega
theorem area_range {ax ay bx ey x y : Int} (h : farT ax ay bx ey x y = false) : -633825300114114700748351602688 ≤ areaV ax ay bx ey x y ∧ areaV ax ay bx ey x y ≤ 633825300114114700748351602688 := by
  obtain ⟨⟨h1, h2⟩, ⟨h3, h4⟩, _⟩ := bey_facts h
  have m1 := mul49 h1.1 h1.2 h4.1 h4.2
  have m2 := mul49 h2.1 h2.2 h3.1 h3.2
  unfold areaV; omega
theorem area_long {ax ay bx ey x y : Int} (h : farT ax ay bx ey x y = false) (hA : areaV ax ay bx ey x y < 0) :
    0 < isqrt (dotA ax ay bx ey bx ey) ∧ isqrt (dotA ax ay bx ey bx ey) ≤ 1125899906842624 ∧ -areaV ax ay bx ey x y ≤ 1125899906842624 * isqrt (dotA ax ay bx ey bx ey) := by
  obtain ⟨⟨h1, h2⟩, ⟨h3, h4⟩, _⟩ := bey_facts h
  obtain ⟨l1, l2, l3, l4⟩ := isqrt_size h1 h2
  unfold dotA
  generalize isqrt ((bx - ax) * (bx - ax) + (ey - ay) * (ey - ay)) = L at *
  have m1 := mulB l1.1 l1.2 h4.1 h4.2
  have m2 := mulB l2.1 l2.2 h3.1 h3.2
  unfold areaV at hA ⊢
  have : 0 < L := by
    refine Int.not_le.1 fun h0 => ?_
    have : L = 0 := by omega
    subst this
    omega
  omega
theorem dot_range {ax ay bx ey x y : Int} (h : farT ax ay bx ey x y = false) : (-633825300114114700748351602688 ≤ dotA ax ay bx ey x y ∧ dotA ax ay bx ey x y ≤ 633825300114114700748351602688) ∧
    (-633825300114114700748351602688 ≤ dotA bx ey ax ay x y ∧ dotA bx ey ax ay x y ≤ 633825300114114700748351602688) ∧ (0 ≤ dotA ax ay bx ey bx ey ∧ dotA ax ay bx ey bx ey ≤ 633825300114114700748351602688) := by
  obtain ⟨⟨h1, h2⟩, ⟨h3, h4⟩, ⟨h5, h6⟩⟩ := bey_facts h
  have m1 := mul49 h1.1 h1.2 h3.1 h3.2
  have m2 := mul49 h2.1 h2.2 h4.1 h4.2
  have m3 := mul49 (a := ax - bx) (by omega) (by omega) h5.1 h5.2
  have m4 := mul49 (a := ay - ey) (by omega) (by omega) h6.1 h6.2
  have m5 := mul49 h1.1 h1.2 h1.1 h1.2
  have m6 := mul49 h2.1 h2.2 h2.1 h2.2
  have s1 := sq_pos (bx - ax)
  have s2 := sq_pos (ey - ay)
  unfold dotA; omega
end Go.Se
namespace Go.Se
/-! ### Wide numbers, as they are handed on. -/
def wvw (p : Int) : Int := wv (p / 18446744073709551616) (p % 18446744073709551616)
theorem wvw_eq (p : Int) : wvw p = p := wv_wide p
def sumW (p q : Int) : Int := bif in128 (wvw p + wvw q) then wvw p + wvw q else 0
def negW (p : Int) : Int := bif in128 (-wvw p) then -wvw p else 0
theorem sumW_eq {p q : Int} (h : -170141183460469231731687303715884105728 ≤ p + q) (h' : p + q < 170141183460469231731687303715884105728) : sumW p q = p + q := by
  unfold sumW; rw [wvw_eq, wvw_eq, show in128 (p + q) = true from (in128_iff _).2 ⟨h, h'⟩]; rfl
theorem negW_eq {p : Int} (h : -170141183460469231731687303715884105728 < p) (h' : p < 170141183460469231731687303715884105728) : negW p = -p := by
  unfold negW; rw [wvw_eq, show in128 (-p) = true from (in128_iff _).2 ⟨by omega, by omega⟩]; rfl
def w64 (x : Int) : Int := IntKind.i64.wrap x
theorem w64_eq {x : Int} (h : -9223372036854775808 ≤ x) (h' : x ≤ 9223372036854775807) : w64 x = x := by unfold w64; rw [wi64]; omega
def dotW (ux uy vx vy : Int) : Int := sumW (ux * vx) (uy * vy)
def crossW (ux uy vx vy : Int) : Int := sumW (ux * vy) (negW (uy * vx))
def areaW (ax ay bx ey x y : Int) : Int := crossW (w64 (bx - ax)) (w64 (ey - ay)) (w64 (x - ax)) (w64 (y - ay))
def dotAW (ax ay bx ey x y : Int) : Int := dotW (w64 (bx - ax)) (w64 (ey - ay)) (w64 (x - ax)) (w64 (y - ay))
theorem areaW_eq {ax ay bx ey x y : Int} (h : farT ax ay bx ey x y = false) : areaW ax ay bx ey x y = areaV ax ay bx ey x y := by
  obtain ⟨⟨h1, h2⟩, ⟨h3, h4⟩, _⟩ := bey_facts h
  have m1 := mul49 h1.1 h1.2 h4.1 h4.2
  have m2 := mul49 h2.1 h2.2 h3.1 h3.2
  unfold areaW crossW areaV
  rw [w64_eq (by omega) (by omega), w64_eq (by omega) (by omega), w64_eq (by omega) (by omega), w64_eq (by omega) (by omega), negW_eq (by omega) (by omega), sumW_eq (by omega) (by omega)]
  omega
theorem dotAW_eq {ax ay bx ey x y : Int} (h1 : -562949953421312 ≤ bx - ax ∧ bx - ax ≤ 562949953421312) (h2 : -562949953421312 ≤ ey - ay ∧ ey - ay ≤ 562949953421312)
    (h3 : -562949953421312 ≤ x - ax ∧ x - ax ≤ 562949953421312) (h4 : -562949953421312 ≤ y - ay ∧ y - ay ≤ 562949953421312) : dotAW ax ay bx ey x y = dotA ax ay bx ey x y := by
  have m1 := mul49 h1.1 h1.2 h3.1 h3.2
  have m2 := mul49 h2.1 h2.2 h4.1 h4.2
  unfold dotAW dotW dotA
  rw [w64_eq (by omega) (by omega), w64_eq (by omega) (by omega), w64_eq (by omega) (by omega), w64_eq (by omega) (by omega), sumW_eq (by omega) (by omega)]
theorem cmpI_ge {x : Int} : decide (cmpI x 0 ≥ 0) = decide (0 ≤ x) := by
  unfold cmpI
  cases h : decide (x < 0)
  · have h' := of_decide_eq_false h
    rw [decide_eq_true (show 0 ≤ x by omega)]
    simp only [cond_false]; cases decide (0 < x) <;> rfl
  · have h' := of_decide_eq_true h
    rw [decide_eq_false (show ¬ 0 ≤ x by omega)]; rfl
def sumN (s t : Int) : Int := bif in128 (s + t) then s + t else 0
def areaN (ax ay bx ey x y : Int) : Int := sumN (w64 (bx - ax) * w64 (y - ay)) (-(w64 (ey - ay) * w64 (x - ax)))
def dotN (ax ay bx ey x y : Int) : Int := sumN (w64 (bx - ax) * w64 (x - ax)) (w64 (ey - ay) * w64 (y - ay))
theorem w64_range (x : Int) : -9223372036854775808 ≤ w64 x ∧ w64 x ≤ 9223372036854775807 := by unfold w64; rw [wi64]; omega
theorem areaN_eq {ax ay bx ey x y : Int} (h : farT ax ay bx ey x y = false) : areaN ax ay bx ey x y = areaV ax ay bx ey x y := by
  rw [← areaW_eq h]
  obtain ⟨⟨h1, h2⟩, ⟨h3, h4⟩, _⟩ := bey_facts h
  have m1 := mul49 h1.1 h1.2 h4.1 h4.2
  have m2 := mul49 h2.1 h2.2 h3.1 h3.2
  unfold areaN areaW crossW sumN
  rw [w64_eq (by omega) (by omega), w64_eq (by omega) (by omega), w64_eq (by omega) (by omega), w64_eq (by omega) (by omega), negW_eq (by omega) (by omega), sumW_eq (by omega) (by omega),
    show in128 _ = true from (in128_iff _).2 ⟨by omega, by omega⟩]
  rfl
theorem dotN_W (ax ay bx ey x y : Int) : dotN ax ay bx ey x y = dotAW ax ay bx ey x y := by
  unfold dotN dotAW dotW sumN sumW
  rw [wvw_eq, wvw_eq]
end Go.Se

/- What is asked of a track: plain. -/
namespace Go.Se
def pz : List SV → Bool
  | _ :: _ :: .bool b :: _ => b
  | _ => false
def ones (g : Nat → List SV) : Prop := ∀ i, g i = [.int .i64 (px (g i))]
theorem ones_eq {g : Nat → List SV} (h : ones g) : g = oneG (fun i => px (g i)) := funext h
def kindsG (g : Nat → List SV) : Prop := ∀ i, g i = [.int .i64 (px (g i)), .int .i64 (py (g i)), .bool (pz (g i))]
def kindF (a b : Nat → Int) (o : Nat → Bool) : Nat → List SV := fun i => [.int .i64 (a i), .int .i64 (b i), .bool (o i)]
theorem kinds_eq {g : Nat → List SV} (h : kindsG g) : g = kindF (fun i => px (g i)) (fun i => py (g i)) (fun i => pz (g i)) := funext h

/-! ### A track, out of its cells. -/
def rlen : List SV → Nat
  | .ro n _ _ :: _ => n
  | _ => 0
def rget : List SV → Nat → List SV
  | .ro _ _ g :: _ => g
  | _ => fun _ => []
def at3 : List SV → Int
  | _ :: _ :: .int _ x :: _ => x
  | _ => 0
def at4 : List SV → Int
  | _ :: _ :: _ :: .int _ x :: _ => x
  | _ => 0
def at5 : List SV → Bool
  | _ :: _ :: _ :: _ :: .bool x :: _ => x
  | _ => false
def railsS (g : Nat → List SV) : Prop := ∀ i, g i = [.ro (rlen (g i)) 2 (ptsG (fun k => px (rget (g i) k)) (fun k => py (rget (g i) k)))]
def gatesS (g : Nat → List SV) : Prop := ∀ i, g i = [.int .i64 (px (g i)), .int .i64 (py (g i)), .int .i64 (at3 (g i)), .int .i64 (at4 (g i)), .bool (at5 (g i))]
def trkOf (a0 a1 a2 a3 a4 a5 : Int) (nh : Nat) (h : Nat → List SV) (ng : Nat) (g : Nat → List SV) (nk : Nat) (kg : Nat → List SV) (nl : Nat) (l : Nat → List SV) (nr : Nat) (rl : Nat → List SV) (nt : Nat) (gt : Nat → List SV) (sx sy hd lp : Int) : Trk where
  rate := a0
  cell := a1
  cols := a2
  rows := a3
  cx := a4
  cy := a5
  nh := nh
  h := fun i => px (h i)
  ng := ng
  g := fun i => px (g i)
  nk := nk
  kg := fun i => px (kg i)
  kd := fun i => py (kg i)
  ko := fun i => pz (kg i)
  nl := nl
  lx := fun i => px (l i)
  ly := fun i => py (l i)
  nr := nr
  rn := fun i => rlen (rl i)
  rx := fun i k => px (rget (rl i) k)
  ry := fun i k => py (rget (rl i) k)
  nt := nt
  ax := fun i => px (gt i)
  ay := fun i => py (gt i)
  bx := fun i => at3 (gt i)
  sb := fun i => at4 (gt i)
  sp := fun i => at5 (gt i)
  sx := sx
  sy := sy
  head := hd
  laps := lp
def trkS (h g kg l rl gt : Nat → List SV) : Prop := ones h ∧ ones g ∧ kindsG kg ∧ pts l ∧ railsS rl ∧ gatesS gt
theorem trkC_of {h g kg l rl gt : Nat → List SV} (hs : trkS h g kg l rl gt) (a0 a1 a2 a3 a4 a5 : Int) (nh ng nk nl nr nt : Nat) (sx sy hd lp : Int) :
    [SV.int .i64 a0, .int .i64 a1, .int .i64 a2, .int .i64 a3, .int .i64 a4, .int .i64 a5, .ro nh 1 h, .ro ng 1 g, .ro nk 3 kg, .ro nl 2 l, .ro nr 1 rl, .ro nt 5 gt, .int .i64 sx, .int .i64 sy, .int .u32 hd, .int .i64 lp] =
      trkC (trkOf a0 a1 a2 a3 a4 a5 nh h ng g nk kg nl l nr rl nt gt sx sy hd lp) := by
  obtain ⟨h1, h2, h3, h4, h5, h6⟩ := hs
  have e1 : h = oneG (fun i => px (h i)) := funext h1
  have e2 : g = oneG (fun i => px (g i)) := funext h2
  have e3 : kg = kindG (trkOf a0 a1 a2 a3 a4 a5 nh h ng g nk kg nl l nr rl nt gt sx sy hd lp) := funext h3
  have e4 : l = ptsG (fun i => px (l i)) (fun i => py (l i)) := funext h4
  have e5 : rl = railG (trkOf a0 a1 a2 a3 a4 a5 nh h ng g nk kg nl l nr rl nt gt sx sy hd lp) := funext h5
  have e6 : gt = gateG (trkOf a0 a1 a2 a3 a4 a5 nh h ng g nk kg nl l nr rl nt gt sx sy hd lp) := funext h6
  unfold trkC
  rw [← e3, ← e5, ← e6]
  show [SV.int .i64 a0, .int .i64 a1, .int .i64 a2, .int .i64 a3, .int .i64 a4, .int .i64 a5, .ro nh 1 h, .ro ng 1 g, .ro nk 3 kg, .ro nl 2 l, .ro nr 1 rl, .ro nt 5 gt, .int .i64 sx, .int .i64 sy, .int .u32 hd, .int .i64 lp] = [SV.int .i64 a0, .int .i64 a1, .int .i64 a2, .int .i64 a3, .int .i64 a4, .int .i64 a5, .ro nh 1 (oneG (fun i => px (h i))), .ro ng 1 (oneG (fun i => px (g i))), .ro nk 3 kg, .ro nl 2 (ptsG (fun i => px (l i)) (fun i => py (l i))), .ro nr 1 rl, .ro nt 5 gt, .int .i64 sx, .int .i64 sy, .int .u32 hd, .int .i64 lp]
  rw [← e1, ← e2, ← e4]
theorem trkS_of (t : Trk) : trkS (oneG t.h) (oneG t.g) (kindG t) (ptsG t.lx t.ly) (railG t) (gateG t) :=
  ⟨fun _ => rfl, fun _ => rfl, fun _ => rfl, fun _ => rfl, fun _ => rfl, fun _ => rfl⟩
theorem trkOf_of (t : Trk) : trkOf t.rate t.cell t.cols t.rows t.cx t.cy t.nh (oneG t.h) t.ng (oneG t.g) t.nk (kindG t) t.nl (ptsG t.lx t.ly) t.nr (railG t) t.nt (gateG t) t.sx t.sy t.head t.laps = t := rfl

def sizeP (m x : Int) : Bool := decide (x > m) || decide (x < IntKind.i64.wrap (0 - m))
def offP (x y : Int) : Bool := decide ((if y > x then y else x) > 140737488355328) || decide ((if y < x then y else x) < -140737488355328)
def noneP (n : Nat) (k : Int) : Bool := decide (k < 0) || decide (k ≥ n)
def oddP (g d : Int) : Bool := decide ((if d < g then d else g) < 0) || (decide (g > 8589934592) || decide (d > 4294967296))
theorem Br_bool {K : KC} {c a b : Bool} {σ : List (Option SB)} {d : List Nat} : Br c (K (.bool a) σ d) (K (.bool b) σ d) = K (.bool (bif c then a else b)) σ d := by cases c <;> rfl
theorem Br_int {K : KC} {k : IntKind} {c : Bool} {a b : Int} {σ : List (Option SB)} {d : List Nat} : Br c (K (.int k a) σ d) (K (.int k b) σ d) = K (.int k (bif c then a else b)) σ d := by cases c <;> rfl
theorem finB {K : KC} {a b : Bool} {σ : List (Option SB)} {d : List Nat} (h : K (.bool a) σ d) (e : b = a) : K (.bool b) σ d := e ▸ h
theorem finI {K : KC} {k : IntKind} {a b : Int} {σ : List (Option SB)} {d : List Nat} (h : K (.int k a) σ d) (e : b = a) : K (.int k b) σ d := e ▸ h
def countedB (cols rows : Int) (nh ng nk : Nat) : Bool :=
  decide (1 ≤ cols ∧ cols ≤ 64 ∧ 1 ≤ rows ∧ rows ≤ 64 ∧ 1 ≤ nk ∧ nk ≤ 8) && ((nh : Int) == IntKind.i64.wrap (IntKind.i64.wrap (cols + 1) * IntKind.i64.wrap (rows + 1)) && (ng : Int) == IntKind.i64.wrap (cols * rows))
def inP (x l h : Int) : Bool := decide (l ≤ x) && decide (x ≤ h)
theorem counted_facts {cols rows : Int} {nh ng nk : Nat} (h : countedB cols rows nh ng nk = true) : ((1 ≤ cols ∧ cols ≤ 64) ∧ (1 ≤ rows ∧ rows ≤ 64) ∧ (1 ≤ nk ∧ nk ≤ 8)) ∧
    (nh : Int) = (cols + 1) * (rows + 1) ∧ (ng : Int) = cols * rows ∧ nh = (cols + 1).toNat * (rows + 1).toNat ∧ nh ≤ 4225 ∧ ng ≤ 4096 := by
  unfold countedB at h
  simp only [Bool.and_eq_true, decide_eq_true_eq, beq_iff_eq] at h
  obtain ⟨⟨h1, h2, h3, h4, h5, h6⟩, h7, h8⟩ := h
  have m1 := mulB (a := cols + 1) (b := rows + 1) (N := 65) (M := 65) (by omega) (by omega) (by omega) (by omega)
  have m2 := mulB (a := cols) (b := rows) (N := 64) (M := 64) (by omega) (by omega) (by omega) (by omega)
  have hw : ∀ x : Int, -10000 ≤ x → x ≤ 10000 → IntKind.i64.wrap x = x := fun x _ _ => by rw [IntKind.wrap_i64]; omega
  rw [hw (cols + 1) (by omega) (by omega), hw (rows + 1) (by omega) (by omega), hw _ (by omega) (by omega)] at h7
  rw [hw _ (by omega) (by omega)] at h8
  refine ⟨⟨⟨h1, h2⟩, ⟨h3, h4⟩, h5, h6⟩, h7, h8, ?_, by omega, by omega⟩
  have e1 : ((cols + 1).toNat : Int) = cols + 1 := Int.toNat_of_nonneg (by omega)
  have e2 : ((rows + 1).toNat : Int) = rows + 1 := Int.toNat_of_nonneg (by omega)
  apply Int.ofNat.inj
  show (nh : Int) = (((cols + 1).toNat * (rows + 1).toNat : Nat) : Int)
  rw [Int.natCast_mul, e1, e2]; exact h7
/-- Is the ground too steep from a place on? -/
def steepB (h : Nat → Int) (cell : Int) (w n i : Nat) : Bool :=
  (decide ((i + 1) % w ≠ 0) && sizeP cell (IntKind.i64.wrap (h (i + 1) - h i))) || (decide (i + w < n) && sizeP cell (IntKind.i64.wrap (h (i + w) - h i)))
theorem Br_t {A B : Prop} : Br true A B = A := rfl
theorem Br_f {A B : Prop} : Br false A B = B := rfl
theorem wi64_nat {n : Nat} (h : n < 9223372036854775808) : IntKind.i64.wrap (n : Int) = (n : Int) := by rw [IntKind.wrap_i64]; omega
theorem tmod_nat (a b : Nat) : ((a : Int).tmod (b : Int)) = ((a % b : Nat) : Int) := by rw [Int.tmod_eq_emod_of_nonneg (Int.natCast_nonneg a)]; exact (Int.natCast_emod a b).symm
theorem bne_nat (a : Nat) : ((a : Int) != 0) = decide (a ≠ 0) := by
  cases a with
  | zero => rfl
  | succ n => rw [decide_eq_true (Nat.succ_ne_zero n), bne_iff_ne]; omega
theorem orQ {K : KC} {a b : Bool} {σ : List (Option SB)} {d : List Nat} (h : K (.bool (a || b)) σ d) : Br a (K (.bool true) σ d) (K (.bool b) σ d) :=
  Br.of (fun c => by rw [c] at h; exact h) fun c => by rw [c] at h; exact h
theorem andQ {K : KC} {a b : Bool} {σ : List (Option SB)} {d : List Nat} (h : K (.bool (a && b)) σ d) : Br a (K (.bool b) σ d) (K (.bool false) σ d) :=
  Br.of (fun c => by rw [c] at h; exact h) fun c => by rw [c] at h; exact h

def fieldBad (t : Trk) : Bool :=
  decide (t.cell < 17179869184) || (decide (t.cell > 274877906944) || ((sizeP 140737488355328 t.cx || sizeP 140737488355328 t.cy) || (anyB (fun i => sizeP 2199023255552 (t.h i)) t.nh ||
    (anyB (steepB t.h t.cell (t.cols + 1).toNat t.nh) t.nh || (anyB (fun i => noneP t.nk (t.g i)) t.ng || anyB (fun i => oddP (t.kg i) (t.kd i)) t.nk)))))
/-- What is wrong with a track's ground. -/
def fieldV (t : Trk) : Int := bif countedB t.cols t.rows t.nh t.ng t.nk then (bif fieldBad t then 40 else 0) else 42

theorem wi64_pred {k : Nat} (h1 : 1 ≤ k) (h2 : k < 9223372036854775808) : IntKind.i64.wrap ((k : Int) - 1) = ((k - 1 : Nat) : Int) := by rw [IntKind.wrap_i64]; omega
/-- Is a place the same as the one ahead of it? -/
def sameB (X Y : Nat → Int) (i : Nat) : Bool := X (i + 1) == X i && Y (i + 1) == Y i
def dupB (X Y : Nat → Int) (n : Nat) : Bool := anyB (sameB X Y) (n - 1)
theorem rowPut_far (k : Nat) (x y : Int) (X Y : Nat → Int) : rowPut k [.int .i64 x, .int .i64 y] (farCells X Y) = farCells (fun j => if j = k then x else X j) (fun j => if j = k then y else Y j) := by
  funext j
  unfold rowPut farCells
  by_cases h : j = k
  · rw [decide_eq_true h]; simp only [if_pos h, cond_true]
  · rw [decide_eq_false h]; simp only [if_neg h, cond_false]

/-- What is wrong with a line. -/
def lineV (n : Nat) (X Y : Nat → Int) : Int :=
  bif decide ((n : Int) < 3) then 42 else bif decide ((n : Int) > 64) then 42 else bif anyB (fun i => farB (X i) (Y i)) n then 40 else 0
def rateB (t : Trk) : Bool := decide (60 ≤ t.rate) && decide (t.rate ≤ 1024)
def lineOff (t : Trk) : Bool := anyB (fun i => offP (t.lx i) (t.ly i)) t.nl
/-- What is wrong with all that lies. -/
def groundV (t : Trk) : Int := bif !rateB t then 40 else bif fieldV t != 0 then fieldV t else bif lineV t.nl t.lx t.ly != 0 then lineV t.nl t.lx t.ly else bif lineOff t then 40 else 0
/-- What is wrong with a rail. -/
def railV (t : Trk) (i : Nat) : Int :=
  bif !(decide ((2 : Int) ≤ t.rn i) && decide ((t.rn i : Int) ≤ 64)) then 42 else bif anyB (fun k => offP (t.rx i k) (t.ry i k)) (t.rn i) then 40 else bif dupB (t.rx i) (t.ry i) (t.rn i) then 43 else 0
/-- What is wrong with a gate. -/
def gateV (t : Trk) (i : Nat) : Int :=
  bif offP (t.ax i) (t.ay i) || offP (t.bx i) (t.sb i) then 40 else bif t.ax i == t.bx i && t.ay i == t.sb i then 43 else 0
/-- What is wrong first, and where. -/
def fstW (c : Nat → Int) : Nat → Nat → Int × Int
  | 0, _ => (0, 0)
  | f + 1, i => bif c i != 0 then (c i, (i : Int)) else fstW c f (i + 1)
def railsV (t : Trk) : Int × Int := bif decide ((t.nr : Int) > 16) then (42, 0) else fstW (railV t) t.nr 0
def gatesV (t : Trk) : Int × Int := bif !(decide ((1 : Int) ≤ t.nt) && decide ((t.nt : Int) ≤ 16)) then (42, 0) else fstW (gateV t) t.nt 0

theorem fst_step {c : Nat → Int} {n i : Nat} (hi : i < n) : fstW c (n - i) i = bif c i != 0 then (c i, (i : Int)) else fstW c (n - (i + 1)) (i + 1) := by
  rw [show n - i = (n - (i + 1)) + 1 by omega]; rfl
theorem fst_hit {c : Nat → Int} {n i : Nat} {v : Int} (hi : i < n) (h : c i = v) (hv : (v != 0) = true) : fstW c (n - i) i = (v, (i : Int)) := by
  rw [fst_step hi, h, hv]; rfl
theorem fst_miss {c : Nat → Int} {n i : Nat} (hi : i < n) (h : c i = 0) : fstW c (n - i) i = fstW c (n - (i + 1)) (i + 1) := by
  rw [fst_step hi, h]; rfl

/-! ### Rails' pieces, in order. -/
def barsN (t : Trk) (i k : Nat) : List Bar := (List.range k).map (barAt t i)
def allBars (t : Trk) : Nat → List Bar
  | 0 => []
  | i + 1 => allBars t i ++ barsN t i (t.rn i - 1)
theorem barsN_succ (t : Trk) (i k : Nat) : barsN t i (k + 1) = barsN t i k ++ [barAt t i k] := by
  unfold barsN; rw [List.range_succ, List.map_append]; rfl
theorem barsN_len (t : Trk) (i k : Nat) : (barsN t i k).length = k := by unfold barsN; simp
theorem allBars_len {t : Trk} {m : Nat} (h : ∀ i, i < t.nr → t.rn i ≤ m) : ∀ n, n ≤ t.nr → (allBars t n).length ≤ n * m
  | 0, _ => Nat.zero_le _
  | n + 1, hn => by
    show (allBars t n ++ barsN t n (t.rn n - 1)).length ≤ _
    rw [List.length_append, barsN_len, Nat.add_mul, Nat.one_mul]
    have h1 := allBars_len h n (by omega)
    have h2 := h n (by omega)
    omega
def barL (t : Trk) : List Bar := allBars t t.nr
def smallR (t : Trk) : Prop := t.nr ≤ 20 ∧ ∀ i, i < t.nr → t.rn i ≤ 100

theorem max_pred {r : Nat} (h : r < 9223372036854775808) : (if 0 > IntKind.i64.wrap ((r : Int) - 1) then 0 else IntKind.i64.wrap ((r : Int) - 1)) = ((r - 1 : Nat) : Int) := by
  rw [IntKind.wrap_i64]; split <;> omega
theorem barAt_sv (t : Trk) (i k : Nat) : [SV.int .i64 (t.rx i k), .int .i64 (t.ry i k), .int .i64 (t.rx i (k + 1)), .int .i64 (t.ry i (k + 1)), .int .i64 i] = bsv (barAt t i k) := rfl

def bar0 : Bar := (0, 0, 0, 0, 0)
def barG (L : List Bar) : Nat → List SV := listG bsv bar0 L
/-- Is the start closely behind a bar? -/
def nearBar (t : Trk) (b : Bar) : Bool := decide (0 < beyV b.1 b.2.1 b.2.2.1 b.2.2.2.1 t.sx t.sy) && decide (beyV b.1 b.2.1 b.2.2.1 b.2.2.2.1 t.sx t.sy ≤ 17179869184)
def nearAny (t : Trk) : Bool := anyB (fun i => nearBar t ((barL t).getD i bar0)) (barL t).length
def outB (t : Trk) : Bool :=
  decide (t.sx < t.cx) || (decide (t.sy < t.cy) || (decide (t.sx > IntKind.i64.wrap (t.cx + IntKind.i64.wrap (t.cols * t.cell))) || decide (t.sy > IntKind.i64.wrap (t.cy + IntKind.i64.wrap (t.rows * t.cell)))))
def lapsB (t : Trk) : Bool := decide (1 ≤ t.laps) && decide (t.laps ≤ 100)
def startV (t : Trk) : Int × Int := bif outB t then (40, 0) else bif nearAny t then (43, 0) else bif !lapsB t then (40, 0) else (0, 0)
/-- One after the other. -/
def orV (a b : Int × Int) : Int × Int := bif a.1 != 0 then a else b
def rightV (t : Trk) : Int × Int := orV (groundV t, 0) (orV (railsV t) (orV (gatesV t) (startV t)))

def inR (x l h : Int) : Bool := decide (x ≥ l) && decide (x ≤ h)
theorem inR_size (x m : Int) : (!inR x (IntKind.i64.wrap (0 - m)) m) = sizeP m x := by
  unfold inR sizeP; grind

theorem mod_last {i w : Nat} (hw : 1 ≤ w) : decide (i % w < w - 1) = decide ((i + 1) % w ≠ 0) := by
  have h1 := Nat.div_add_mod i w
  have h2 := Nat.mod_lt i (show 0 < w by omega)
  have e : (i + 1) % w = (i % w + 1) % w := by
    conv => lhs; rw [← h1, Nat.add_assoc, Nat.mul_add_mod]
  rw [e]
  by_cases h : i % w + 1 < w
  · rw [Nat.mod_eq_of_lt h, decide_eq_true (by omega), decide_eq_true (by omega)]
  · rw [show i % w + 1 = w by omega, Nat.mod_self, decide_eq_false (by omega), decide_eq_false (by simp)]
theorem div_last {i w R : Nat} (hw : 1 ≤ w) : decide (i / w < R - 1) = decide (i + w < w * R) := by
  have h := @Nat.div_lt_iff_lt_mul w i (R - 1) (by omega)
  have e : (R - 1) * w = w * R - w := by rw [Nat.sub_mul, Nat.one_mul, Nat.mul_comm]
  rw [decide_eq_decide, h, e]
  omega
theorem tdiv_nat (a b : Nat) : ((a : Int).tdiv (b : Int)) = ((a / b : Nat) : Int) := by rw [Int.tdiv_eq_ediv_of_nonneg (Int.natCast_nonneg a)]; exact (Int.natCast_ediv a b).symm
end Go.Se

/- What follows for a track that may be: plain. -/
namespace Go.Se
theorem orV_zero {a b : Int × Int} (h : (orV a b).1 = 0) : a.1 = 0 ∧ b.1 = 0 := by
  unfold orV at h
  cases hc : a.1 != 0
  · rw [hc] at h
    refine ⟨?_, h⟩
    by_cases hx : a.1 = 0
    · exact hx
    · rw [bne_iff_ne.2 hx] at hc; cases hc
  · rw [hc] at h
    rw [bne_iff_ne] at hc
    exact absurd h hc
def pointB (b : Bar) : Bool := b.1 == b.2.2.1 && b.2.1 == b.2.2.2.1
/-- Without its last rail, and with one lap. -/
def lessT (t : Trk) : Trk := { t with laps := 1, nr := t.nr - 1 }
end Go.Se

