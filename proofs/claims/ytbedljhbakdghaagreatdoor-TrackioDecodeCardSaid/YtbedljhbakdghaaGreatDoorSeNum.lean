/- Part 31: numbers of a sign and four parts of 32 bits: plain. -/
import Derived.Test.YtbedljhbakdghaaGreatDoorSeArith
namespace Go.Se
def dv (a b c d : Int) : Int := a + b * 4294967296 + c * 18446744073709551616 + d * 79228162514264337593543950336
def dOk (a b c d : Int) : Bool := decide (a < 4294967296) && decide (b < 4294967296) && decide (c < 4294967296) && decide (d < 4294967296)
def digL (X : Int) : List SV := [.int .u64 (X % 4294967296), .int .u64 (X / 4294967296 % 4294967296), .int .u64 (X / 18446744073709551616 % 4294967296), .int .u64 (X / 79228162514264337593543950336 % 4294967296)]
def nSV (x : Int) : SV := .agg (.bool (decide (x < 0)) :: digL (absI x))
def nv (s : Bool) (a b c d : Int) : Int := bif s then -dv a b c d else dv a b c d

theorem dOk_iff {a b c d : Int} : dOk a b c d = true ↔ a < 4294967296 ∧ b < 4294967296 ∧ c < 4294967296 ∧ d < 4294967296 := by
  unfold dOk; simp only [Bool.and_eq_true, decide_eq_true_eq, and_assoc]
theorem dOk_dig (X : Int) : dOk (X % 4294967296) (X / 4294967296 % 4294967296) (X / 18446744073709551616 % 4294967296) (X / 79228162514264337593543950336 % 4294967296) = true := by
  rw [dOk_iff]; omega
theorem dv_dig {X : Int} (h0 : 0 ≤ X) (h1 : X < 340282366920938463463374607431768211456) :
    dv (X % 4294967296) (X / 4294967296 % 4294967296) (X / 18446744073709551616 % 4294967296) (X / 79228162514264337593543950336 % 4294967296) = X := by
  unfold dv; omega
/-- Four parts are those of their number. -/
theorem dig_eq {a b c d X : Int} (h : dOk a b c d = true) (ha : 0 ≤ a) (hb : 0 ≤ b) (hc : 0 ≤ c) (hd : 0 ≤ d) (hX : dv a b c d = X) :
    ([.int .u64 a, .int .u64 b, .int .u64 c, .int .u64 d] : List SV) = digL X := by
  rw [dOk_iff] at h
  unfold dv at hX
  unfold digL
  rw [show a = X % 4294967296 by omega, show b = X / 4294967296 % 4294967296 by omega, show c = X / 18446744073709551616 % 4294967296 by omega, show d = X / 79228162514264337593543950336 % 4294967296 by omega]
theorem dig_mod {a b c d X : Int} (h : dOk a b c d = true) (ha : 0 ≤ a) (hb : 0 ≤ b) (hc : 0 ≤ c) (_hd : 0 ≤ d) (hX : dv a b c d = X % 340282366920938463463374607431768211456) :
    ([.int .u64 a, .int .u64 b, .int .u64 c, .int .u64 d] : List SV) = digL X := by
  rw [dOk_iff] at h
  unfold dv at hX
  unfold digL
  rw [show a = X % 4294967296 by omega, show b = X / 4294967296 % 4294967296 by omega, show c = X / 18446744073709551616 % 4294967296 by omega, show d = X / 79228162514264337593543950336 % 4294967296 by omega]
theorem absI_nonneg (x : Int) : 0 ≤ absI x := by
  unfold absI
  cases h : decide (x < 0)
  · have := of_decide_eq_false h; simp only [cond_false]; omega
  · have := of_decide_eq_true h; simp only [cond_true]; omega
theorem absI_lt {x B : Int} (h0 : -B < x) (h1 : x < B) : absI x < B := by
  unfold absI
  cases decide (x < 0)
  · simp only [cond_false]; omega
  · simp only [cond_true]; omega
theorem nv_num {x : Int} (h0 : -340282366920938463463374607431768211456 < x) (h1 : x < 340282366920938463463374607431768211456) :
    nv (decide (x < 0)) (absI x % 4294967296) (absI x / 4294967296 % 4294967296) (absI x / 18446744073709551616 % 4294967296) (absI x / 79228162514264337593543950336 % 4294967296) = x := by
  unfold nv
  rw [dv_dig (absI_nonneg x) (absI_lt h0 h1)]
  unfold absI
  cases h : decide (x < 0)
  · simp only [cond_false]
  · simp only [cond_true]; omega
end Go.Se
namespace Go.Se
theorem u64_tdiv (x : Int) : (IntKind.u64.wrap x).tdiv 4294967296 = x % 18446744073709551616 / 4294967296 := by
  rw [wu64, Int.tdiv_eq_ediv_of_nonneg (by omega)]
def cSizeN : List SV → List (Option SB) → Out
  | [.int .i64 n], [] => some (.int .u64 (absI n), [], [])
  | _, _ => none
def cLow : List SV → List (Option SB) → Out
  | [.int .u64 n], [] => some (.int .u64 (n % 4294967296), [], [])
  | _, _ => none
abbrev OutIf := Option (Bool × SV × List (Option SB) × List Nat)
def cLessN : List SV → List (Option SB) → OutIf
  | [.agg [.int .u64 a, .int .u64 b, .int .u64 c, .int .u64 d], .agg [.int .u64 e, .int .u64 f, .int .u64 g, .int .u64 h]], [] =>
    some (dOk a b c d && dOk e f g h, .bool (decide (dv a b c d < dv e f g h)), [], [])
  | _, _ => none
def cPlusN : List SV → List (Option SB) → OutIf
  | [.agg [.int .u64 a, .int .u64 b, .int .u64 c, .int .u64 d], .agg [.int .u64 e, .int .u64 f, .int .u64 g, .int .u64 h]], [] =>
    some (dOk a b c d && dOk e f g h, .tup [.agg (digL (dv a b c d + dv e f g h)), .int .u64 ((dv a b c d + dv e f g h) / 340282366920938463463374607431768211456)], [], [])
  | _, _ => none
def cMinusN : List SV → List (Option SB) → OutIf
  | [.agg [.int .u64 a, .int .u64 b, .int .u64 c, .int .u64 d], .agg [.int .u64 e, .int .u64 f, .int .u64 g, .int .u64 h]], [] =>
    some (dOk a b c d && dOk e f g h && decide (dv e f g h ≤ dv a b c d), .agg (digL (dv a b c d - dv e f g h)), [], [])
  | _, _ => none
def cZeroN : List SV → List (Option SB) → Out
  | [.agg [.bool _, .int .u64 a, .int .u64 b, .int .u64 c, .int .u64 d]], [] => some (.bool (dv a b c d == 0), [], [])
  | _, _ => none
def cWordsN : List SV → List (Option SB) → KC → Prop
  | [.agg [.bool s, .int .u64 a, .int .u64 b, .int .u64 c, .int .u64 d]], [], K => If (dOk a b c d) (∀ h l : Int, K (.tup [.int .i64 h, .int .u64 l, .bool (in128 (nv s a b c d))]) [] [])
  | _, _, _ => False
def cOfN : List SV → List (Option SB) → Out
  | [.int .i64 n], [] => some (nSV n, [], [])
  | _, _ => none
def cSignN : List SV → List (Option SB) → Out
  | [.agg [.bool s, .int .u64 a, .int .u64 b, .int .u64 c, .int .u64 d]], [] => some (.int .i64 (cmpI (nv s a b c d) 0), [], [])
  | _, _ => none
theorem in128_iff (x : Int) : in128 x = true ↔ -170141183460469231731687303715884105728 ≤ x ∧ x < 170141183460469231731687303715884105728 := by
  unfold in128; simp only [Bool.and_eq_true, decide_eq_true_eq]
theorem in128_eq {x : Int} {b : Bool} (h : b = true ↔ -170141183460469231731687303715884105728 ≤ x ∧ x < 170141183460469231731687303715884105728) : b = in128 x := by
  rw [Bool.eq_iff_iff, h, in128_iff]
end Go.Se
namespace Go.Se
def dvS (X : Int) : Int := dv (X % 4294967296) (X / 4294967296 % 4294967296) (X / 18446744073709551616 % 4294967296) (X / 79228162514264337593543950336 % 4294967296)
def dOkD (X : Int) : Bool := dOk (X % 4294967296) (X / 4294967296 % 4294967296) (X / 18446744073709551616 % 4294967296) (X / 79228162514264337593543950336 % 4294967296)
def nvD (s : Bool) (X : Int) : Int := nv s (X % 4294967296) (X / 4294967296 % 4294967296) (X / 18446744073709551616 % 4294967296) (X / 79228162514264337593543950336 % 4294967296)
theorem dOkD_eq (X : Int) : dOkD X = true := dOk_dig X
theorem dvS_eq {X : Int} (h0 : 0 ≤ X) (h1 : X < 340282366920938463463374607431768211456) : dvS X = X := dv_dig h0 h1
theorem nvD_eq {s : Bool} {X : Int} (h0 : 0 ≤ X) (h1 : X < 340282366920938463463374607431768211456) : nvD s X = bif s then -X else X := by
  unfold nvD nv; rw [dv_dig h0 h1]
def nvX (x : Int) : Int := nv (decide (x < 0)) (absI x % 4294967296) (absI x / 4294967296 % 4294967296) (absI x / 18446744073709551616 % 4294967296) (absI x / 79228162514264337593543950336 % 4294967296)
def okX (x : Int) : Bool := dOkD (absI x)
theorem okX_eq (x : Int) : okX x = true := dOkD_eq _
theorem nvX_eq {x : Int} (h0 : -340282366920938463463374607431768211456 < x) (h1 : x < 340282366920938463463374607431768211456) : nvX x = x := nv_num h0 h1
def nilN : SV := .agg [.bool false, .int .u64 0, .int .u64 0, .int .u64 0, .int .u64 0]
def sumG (ok n : Bool) (X : Int) (K : KC) : Prop :=
  If (dOkD X) (∀ _h _l : Int, Br (!ok) (K (.tup [nilN, .bool false]) [] []) (Br (!in128 (nvD n X)) (K (.tup [nilN, .bool false]) [] []) (K (.tup [.agg (.bool n :: digL X), .bool true]) [] [])))
def sumF (ok n : Bool) (X : Int) (K : KC) : Prop := Br (dvS X == 0) (sumG ok false X K) (sumG ok n X K)
theorem nSV_of {n : Bool} {X v : Int} (_h0 : 0 ≤ X) (hn : n = decide (v < 0)) (hv : v = bif n then -X else X) : SV.agg (.bool n :: digL X) = nSV v := by
  unfold nSV
  rw [← hn, show absI v = X by
    unfold absI; rw [← hn]; cases n
    · simp only [cond_false] at hv ⊢; exact hv
    · simp only [cond_true] at hv ⊢; omega]
theorem sumF_law {ok n : Bool} {X v : Int} {K : KC} (h0 : 0 ≤ X) (hX : X < 680564733841876926926749214863536422912) (hok : ok = decide (X < 340282366920938463463374607431768211456)) (hv : v = bif n then -X else X)
    (hK : K (.tup [nSV (bif in128 v then v else 0), .bool (in128 v)]) [] []) : sumF ok n X K := by
  have hnil : nilN = nSV 0 := rfl
  have hn0 : in128 v = false → K (.tup [nilN, .bool false]) [] [] := fun h => by rw [h] at hK; exact hK
  cases ok with
  | false =>
    have hlt := of_decide_eq_false hok.symm
    have : in128 v = false := by
      cases hi : in128 v with
      | false => rfl
      | true =>
        have hi := (in128_iff v).1 hi
        cases n
        · simp only [cond_false] at hv; omega
        · simp only [cond_true] at hv; omega
    have g : ∀ n, sumG false n X K := fun n => If.mk (dOkD_eq X) fun _ _ => Br.of (fun _ => hn0 this) fun h => by cases h
    exact Br.of (fun _ => g _) fun _ => g _
  | true =>
    have hlt := of_decide_eq_true hok.symm
    have g : ∀ n, v = (bif n then -X else X) → n = decide (v < 0) → sumG true n X K := fun n hv hn => If.mk (dOkD_eq X) fun _ _ => Br.of (fun h => by cases h) fun _ => by
      rw [nvD_eq h0 hlt, ← hv]
      cases hi : in128 v with
      | false => exact Br.of (fun _ => hn0 hi) fun h => by cases h
      | true =>
        refine Br.of (fun h => by cases h) fun _ => ?_
        rw [hi] at hK
        rw [nSV_of h0 hn hv]
        exact hK
    unfold sumF
    rw [dvS_eq h0 hlt]
    refine Br.of (fun h => g _ ?_ ?_) fun h => g _ hv ?_
    · have : X = 0 := by simpa using h
      subst this
      rw [hv]; cases n <;> rfl
    · have : X = 0 := by simpa using h
      subst this
      rw [hv]; cases n <;> rfl
    · have : X ≠ 0 := by simpa using h
      cases n
      · simp only [cond_false] at hv; exact (decide_eq_false (by omega)).symm
      · simp only [cond_true] at hv; exact (decide_eq_true (by omega)).symm
def cAddN : List SV → List (Option SB) → OutIf
  | [.agg [.bool s, .int .u64 a, .int .u64 b, .int .u64 c, .int .u64 d], .agg [.bool t, .int .u64 e, .int .u64 f, .int .u64 g, .int .u64 h]], [] =>
    some (dOk a b c d && dOk e f g h, .tup [nSV (bif in128 (nv s a b c d + nv t e f g h) then nv s a b c d + nv t e f g h else 0), .bool (in128 (nv s a b c d + nv t e f g h))], [], [])
  | _, _ => none
def cCmpN : List SV → List (Option SB) → OutIf
  | [.agg [.bool s, .int .u64 a, .int .u64 b, .int .u64 c, .int .u64 d], .agg [.bool t, .int .u64 e, .int .u64 f, .int .u64 g, .int .u64 h]], [] =>
    some (dOk a b c d && dOk e f g h, .int .i64 (cmpI (nv s a b c d) (nv t e f g h)), [], [])
  | _, _ => none
end Go.Se
namespace Go.Se
abbrev K4 := Int → Int → Int → Int → Prop
def sOf (p c : Int) : Int := IntKind.u64.wrap (p + c % 4294967296)
def cOf2 (c s : Int) : Int := IntKind.u64.wrap (IntKind.u64.wrap (c.tdiv 4294967296) + IntKind.u64.wrap (s.tdiv 4294967296))
def ad3 (K : K4) (p0 p1 p2 p3 c : Int) : Prop := Br (decide (c > 0)) (K p0 p1 p2 (sOf p3 c % 4294967296)) (K p0 p1 p2 p3)
def ad2 (K : K4) (p0 p1 p2 p3 c : Int) : Prop := Br (decide (c > 0)) (ad3 K p0 p1 (sOf p2 c % 4294967296) p3 (cOf2 c (sOf p2 c))) (K p0 p1 p2 p3)
def ad1 (K : K4) (p0 p1 p2 p3 c : Int) : Prop := Br (decide (c > 0)) (ad2 K p0 (sOf p1 c % 4294967296) p2 p3 (cOf2 c (sOf p1 c))) (K p0 p1 p2 p3)
def ad0 (K : K4) (p0 p1 p2 p3 c : Int) : Prop := Br (decide (c > 0)) (ad1 K (sOf p0 c % 4294967296) p1 p2 p3 (cOf2 c (sOf p0 c))) (K p0 p1 p2 p3)
def mulD (l0 l1 m0 m1 : Int) (K : K4) : Prop :=
  ad0 (fun p0 p1 p2 p3 => ad1 (fun p0 p1 p2 p3 => ad1 (fun p0 p1 p2 p3 => ad2 K p0 p1 p2 p3 (IntKind.u64.wrap (l1 * m1))) p0 p1 p2 p3 (IntKind.u64.wrap (l1 * m0))) p0 p1 p2 p3 (IntKind.u64.wrap (l0 * m1))) 0 0 0 0 (IntKind.u64.wrap (l0 * m0))
/-- Four parts of a number. -/
structure Is4 (X a b c d : Int) : Prop where
  a0 : 0 ≤ a
  a1 : a < 4294967296
  b0 : 0 ≤ b
  b1 : b < 4294967296
  c0 : 0 ≤ c
  c1 : c < 4294967296
  d0 : 0 ≤ d
  d1 : d < 4294967296
  eq : dv a b c d = X
theorem Is4.list {X a b c d : Int} (h : Is4 X a b c d) : ([.int .u64 a, .int .u64 b, .int .u64 c, .int .u64 d] : List SV) = digL X :=
  dig_eq (dOk_iff.2 ⟨h.a1, h.b1, h.c1, h.d1⟩) h.a0 h.b0 h.c0 h.d0 h.eq
theorem adS {p c : Int} (hp : 0 ≤ p) (hp' : p < 4294967296) (hc : 0 ≤ c) (hc' : c < 18446744073709551616) : sOf p c % 4294967296 = (p + c) % 4294967296 ∧ cOf2 c (sOf p c) = (p + c) / 4294967296 := by
  unfold cOf2 sOf
  rw [u64_tdiv, Int.tdiv_eq_ediv_of_nonneg hc]
  simp only [wu64]
  omega
theorem ad3_law {K : K4} {X a b c d u : Int} (h : Is4 X a b c d) (hu : 0 ≤ u) (hX : X + u * 79228162514264337593543950336 < 340282366920938463463374607431768211456) (hK : ∀ a b c d, Is4 (X + u * 79228162514264337593543950336) a b c d → K a b c d) : ad3 K a b c d u := by
  obtain ⟨a0, a1, b0, b1, c0, c1, d0, d1, eq⟩ := h
  unfold dv at eq
  refine Br.of (fun c => hK _ _ _ _ ?_) fun c => hK _ _ _ _ ?_
  · rw [(adS d0 d1 hu (by omega)).1]
    exact ⟨a0, a1, b0, b1, c0, c1, by omega, by omega, by unfold dv; omega⟩
  · have := of_decide_eq_false c
    exact ⟨a0, a1, b0, b1, c0, c1, d0, d1, by unfold dv; omega⟩
theorem ad2_law {K : K4} {X a b c d u : Int} (h : Is4 X a b c d) (hu : 0 ≤ u) (hu' : u < 18446744073709551616) (hX : X + u * 18446744073709551616 < 340282366920938463463374607431768211456) (hK : ∀ a b c d, Is4 (X + u * 18446744073709551616) a b c d → K a b c d) : ad2 K a b c d u := by
  obtain ⟨a0, a1, b0, b1, c0, c1, d0, d1, eq⟩ := h
  have h := adS c0 c1 hu hu'
  unfold dv at eq
  refine Br.of (fun _ => ?_) fun c => hK _ _ _ _ ?_
  · rw [h.1, h.2]
    have e : a + b * 4294967296 + (c + u) % 4294967296 * 18446744073709551616 + d * 79228162514264337593543950336 + (c + u) / 4294967296 * 79228162514264337593543950336 = X + u * 18446744073709551616 := by omega
    refine ad3_law (X := a + b * 4294967296 + (c + u) % 4294967296 * 18446744073709551616 + d * 79228162514264337593543950336) ⟨a0, a1, b0, b1, by omega, by omega, d0, d1, rfl⟩ (by omega) (by omega) ?_
    rw [e]; exact hK
  · have := of_decide_eq_false c
    exact ⟨a0, a1, b0, b1, c0, c1, d0, d1, by unfold dv; omega⟩
theorem ad1_law {K : K4} {X a b c d u : Int} (h : Is4 X a b c d) (hu : 0 ≤ u) (hu' : u < 18446744073709551616) (hX : X + u * 4294967296 < 340282366920938463463374607431768211456) (hK : ∀ a b c d, Is4 (X + u * 4294967296) a b c d → K a b c d) : ad1 K a b c d u := by
  obtain ⟨a0, a1, b0, b1, c0, c1, d0, d1, eq⟩ := h
  have h := adS b0 b1 hu hu'
  unfold dv at eq
  refine Br.of (fun _ => ?_) fun c => hK _ _ _ _ ?_
  · rw [h.1, h.2]
    have e : a + (b + u) % 4294967296 * 4294967296 + c * 18446744073709551616 + d * 79228162514264337593543950336 + (b + u) / 4294967296 * 18446744073709551616 = X + u * 4294967296 := by omega
    refine ad2_law (X := a + (b + u) % 4294967296 * 4294967296 + c * 18446744073709551616 + d * 79228162514264337593543950336) ⟨a0, a1, by omega, by omega, c0, c1, d0, d1, rfl⟩ (by omega) (by omega) (by omega) ?_
    rw [e]; exact hK
  · have := of_decide_eq_false c
    exact ⟨a0, a1, b0, b1, c0, c1, d0, d1, by unfold dv; omega⟩
theorem ad0_law {K : K4} {X a b c d u : Int} (h : Is4 X a b c d) (hu : 0 ≤ u) (hu' : u < 18446744073709551616) (hX : X + u < 340282366920938463463374607431768211456) (hK : ∀ a b c d, Is4 (X + u) a b c d → K a b c d) : ad0 K a b c d u := by
  obtain ⟨a0, a1, b0, b1, c0, c1, d0, d1, eq⟩ := h
  have h := adS a0 a1 hu hu'
  unfold dv at eq
  refine Br.of (fun _ => ?_) fun c => hK _ _ _ _ ?_
  · rw [h.1, h.2]
    have e : (a + u) % 4294967296 + b * 4294967296 + c * 18446744073709551616 + d * 79228162514264337593543950336 + (a + u) / 4294967296 * 4294967296 = X + u := by omega
    refine ad1_law (X := (a + u) % 4294967296 + b * 4294967296 + c * 18446744073709551616 + d * 79228162514264337593543950336) ⟨by omega, by omega, b0, b1, c0, c1, d0, d1, rfl⟩ (by omega) (by omega) (by omega) ?_
    rw [e]; exact hK
  · have := of_decide_eq_false c
    exact ⟨a0, a1, b0, b1, c0, c1, d0, d1, by unfold dv; omega⟩
theorem mulD_law {K : K4} {x y : Int} (hx : 0 ≤ x) (hx' : x ≤ 18446744073709551615) (hy : 0 ≤ y) (hy' : y ≤ 18446744073709551615) (hK : ∀ a b c d, Is4 (x * y) a b c d → K a b c d) :
    mulD (x % 4294967296) (x / 4294967296) (y % 4294967296) (y / 4294967296) K := by
  obtain ⟨h0, h1, h2, h3, h4, h5, h6, h7, h8⟩ := mul_hi hx hx' hy hy' rfl rfl rfl rfl
  unfold mulD
  simp only [wu64]
  generalize x / 4294967296 * (y / 4294967296) = p at *
  generalize x / 4294967296 * (y % 4294967296) = q at *
  generalize x % 4294967296 * (y / 4294967296) = r at *
  generalize x % 4294967296 * (y % 4294967296) = s at *
  rw [show s % 18446744073709551616 = s by omega, show r % 18446744073709551616 = r by omega, show q % 18446744073709551616 = q by omega, show p % 18446744073709551616 = p by omega]
  refine ad0_law (X := 0) ⟨by omega, by omega, by omega, by omega, by omega, by omega, by omega, by omega, by unfold dv; omega⟩ (by omega) (by omega) (by omega) fun a b c d h => ?_
  refine ad1_law h (by omega) (by omega) (by omega) fun a b c d h => ?_
  refine ad1_law h (by omega) (by omega) (by omega) fun a b c d h => ?_
  refine ad2_law h (by omega) (by omega) (by omega) fun a b c d h => ?_
  exact hK _ _ _ _ (by rw [h0, show p * 18446744073709551616 + (q + r) * 4294967296 + s = 0 + s + r * 4294967296 + q * 4294967296 + p * 18446744073709551616 by omega]; exact h)
theorem absI_mul (a b : Int) : absI a * absI b = absI (a * b) := by
  have h : ∀ x : Int, absI x = (x.natAbs : Int) := fun x => by
    unfold absI
    cases h : decide (x < 0)
    · have := of_decide_eq_false h; simp only [cond_false]; omega
    · have := of_decide_eq_true h; simp only [cond_true]; omega
  rw [h, h, h, Int.natAbs_mul]; rfl
def cMulN : List SV → List (Option SB) → Out
  | [.int .i64 a, .int .i64 b], [] => some (nSV (a * b), [], [])
  | _, _ => none
def cSquareN : List SV → List (Option SB) → Out
  | [.int .u64 n], [] => some (.agg (digL (n * n)), [], [])
  | _, _ => none
end Go.Se

/- Part 32: such numbers bit by bit: plain. -/
namespace Go.Se
def twiceG (a b c d bit : Int) : Bool := dOk a b c d && decide (bit ≤ 1)
def cTwiceN : List SV → List (Option SB) → OutIf
  | [.agg [.int .u64 a, .int .u64 b, .int .u64 c, .int .u64 d], .int .u64 k], [] => some (twiceG a b c d k, .agg (digL (2 * dv a b c d + k)), [], [])
  | _, _ => none
def bitE (n : Nat) (a b c d : Int) : Int := ((match n / 32 with | 0 => a | 1 => b | 2 => c | _ => d).fdiv (2 ^ (n % 32))).tmod 2
def bitV (X : Int) (i : Int) : Int := X / 2 ^ i.toNat % 2
def bitG (a b c d i : Int) : Bool := dOk a b c d && (decide (0 ≤ i) && decide (i ≤ 127))
def cBitN : List SV → List (Option SB) → OutIf
  | [.agg [.int .u64 a, .int .u64 b, .int .u64 c, .int .u64 d], .int .i64 i], [] => some (bitG a b c d i, .int .u64 (bitV (dv a b c d) i), [], [])
  | _, _ => none
def overG (a b c d e f g h : Int) : Bool := (dOk a b c d && dOk e f g h) && (decide (0 < dv e f g h) && decide (dv e f g h < 170141183460469231731687303715884105728))
def cOverN : List SV → List (Option SB) → OutIf
  | [.agg [.int .u64 a, .int .u64 b, .int .u64 c, .int .u64 d], .agg [.int .u64 e, .int .u64 f, .int .u64 g, .int .u64 h]], [] =>
    some (overG a b c d e f g h, .tup [.agg (digL (dv a b c d / dv e f g h)), .agg (digL (dv a b c d % dv e f g h))], [], [])
  | _, _ => none
theorem sq_pos (x : Int) : 0 ≤ x * x := by rw [← Int.natAbs_mul_self]; omega
theorem isqrt_unique {N r : Int} (h0 : 0 ≤ N) (h1 : N < 170141183460469231731687303715884105728) (hr : 0 ≤ r) (ha : r * r ≤ N) (hb : N < (r + 1) * (r + 1)) : isqrt N = r := by
  obtain ⟨a, b, c, d⟩ := isqrt_ok h0 h1
  have key : ∀ s t : Int, 0 ≤ s → 0 ≤ t → s * s ≤ N → N < (t + 1) * (t + 1) → s ≤ t := fun s t hs ht h3 h4 => by
    refine Int.le_of_not_gt fun hgt => ?_
    have h5 : (t + 1) * (t + 1) ≤ s * s := Int.mul_le_mul (by omega) (by omega) (by omega) (by omega)
    omega
  have := key _ _ a hr c hb
  have := key _ _ hr a ha d
  omega
def cRootN : List SV → List (Option SB) → OutIf
  | [.agg [.bool s, .int .u64 a, .int .u64 b, .int .u64 c, .int .u64 d]], [] =>
    some (dOk a b c d && decide (nv s a b c d < 170141183460469231731687303715884105728), .int .u64 (isqrt (nv s a b c d)), [], [])
  | _, _ => none
end Go.Se

/- Part 33: quotients of such numbers: plain. -/
namespace Go.Se
def eq4 (X Y : Int) : Bool := X % 4294967296 == Y % 4294967296 && (X / 4294967296 % 4294967296 == Y / 4294967296 % 4294967296 && (X / 18446744073709551616 % 4294967296 == Y / 18446744073709551616 % 4294967296 && X / 79228162514264337593543950336 % 4294967296 == Y / 79228162514264337593543950336 % 4294967296))
def twoW (Q : Int) : Int := IntKind.u64.wrap (IntKind.u64.wrap (Q / 4294967296 % 4294967296 * 4294967296) + Q % 4294967296)
def fiN (neg : Bool) (Q : Int) (K : KC) : Prop :=
  Br (Q / 18446744073709551616 % 4294967296 != 0) (dvNo K) (Br (Q / 79228162514264337593543950336 % 4294967296 != 0) (dvNo K)
    (Br neg (Br (decide (twoW Q > 9223372036854775808)) (dvNo K) (K (.tup [.int .i64 (IntKind.i64.wrap (IntKind.u64.wrap (0 - twoW Q))), .bool true]) [] []))
      (Br (decide (twoW Q > 9223372036854775807)) (dvNo K) (K (.tup [.int .i64 (IntKind.i64.wrap (twoW Q)), .bool true]) [] []))))
def overGD (a b c d B : Int) : Bool := overG a b c d (B % 4294967296) (B / 4294967296 % 4294967296) (B / 18446744073709551616 % 4294967296) (B / 79228162514264337593543950336 % 4294967296)
def twiceGD (X : Int) : Bool := twiceG (X % 4294967296) (X / 4294967296 % 4294967296) (X / 18446744073709551616 % 4294967296) (X / 79228162514264337593543950336 % 4294967296) 0
def divX (s t : Bool) (a b c d B : Int) (K : KC) : Prop :=
  If (overGD a b c d B) (If (twiceGD (dv a b c d % dvS B)) (If (dOkD B && dOkD (2 * dvS (dv a b c d % dvS B) + 0))
    ((fun UP DOWN => Br (decide (dvS B < dvS (2 * dvS (dv a b c d % dvS B) + 0))) UP (Br (eq4 (2 * dvS (dv a b c d % dvS B) + 0) B) (Br ((dv a b c d / dvS B % 4294967296).tmod 2 == 1) UP DOWN) DOWN))
      (If (dOkD (dv a b c d / dvS B) && dOk 1 0 0 0) (fiN (!(s == t)) (dvS (dv a b c d / dvS B) + dv 1 0 0 0) K)) (fiN (!(s == t)) (dv a b c d / dvS B) K))))
theorem in64_iff (x : Int) : in64 x = true ↔ -9223372036854775808 ≤ x ∧ x ≤ 9223372036854775807 := by unfold in64; simp only [Bool.and_eq_true, decide_eq_true_eq]
def cDivN : List SV → List (Option SB) → OutIf
  | [.agg [.bool s, .int .u64 a, .int .u64 b, .int .u64 c, .int .u64 d], .int .i64 e], [] =>
    some (dOk a b c d, .tup [.int .i64 (divV (nv s a b c d) e), .bool (divGood (nv s a b c d) e)], [], [])
  | _, _ => none
end Go.Se

