/- Part 25: sines and directions: plain. -/
import Derived.Test.YthohgogofenamaaGreatSeArith
namespace Go.Se
def sinTab : List Int := [0, 105403774, 210744057, 315957395, 420980412, 525749847, 630202589, 734275721, 837906553, 941032661, 1043591926, 1145522571, 1246763195,
  1347252816, 1446930903, 1545737412, 1643612827, 1740498191, 1836335144, 1931065957, 2024633568, 2116981616, 2208054473, 2297797281, 2386155981, 2473077351,
  2558509031, 2642399561, 2724698408, 2805355999, 2884323748, 2961554089, 3037000500, 3110617535, 3182360851, 3252187232, 3320054617, 3385922125, 3449750080,
  3511500034, 3571134792, 3628618433, 3683916329, 3736995171, 3787822988, 3836369162, 3882604450, 3926501002, 3968032378, 4007173558, 4043900968, 4078192482,
  4110027446, 4139386683, 4166252509, 4190608739, 4212440704, 4231735252, 4248480760, 4262667143, 4274285855, 4283329896, 4289793820, 4293673732, 4294967296]
def tabV (k : Int) : Int := bif decide (k < 0) || decide (k > 64) then 0 else sinTab.getD k.toNat 0
def trigMul (a b : Int) : Int := divV (a * b) 1000000000000000000
/-- A sine of the first quarter. -/
def sinR (r : Int) : Int := bif decide (r % 16777216 > 0) then IntKind.i64.wrap (tabV (r / 16777216) + divV (IntKind.i64.wrap (tabV (r / 16777216 + 1) - tabV (r / 16777216)) * (r % 16777216)) 16777216) else tabV (r / 16777216)
def sinF (t : Int) : Int :=
  (fun s => bif decide (t / 1073741824 ≥ 2) then IntKind.i64.wrap (0 - s) else s) (sinR (bif t / 1073741824 % 2 == 1 then 1073741824 - t % 1073741824 else t % 1073741824))
def cosF (t : Int) : Int := sinF ((t + 1073741824) % 4294967296)

theorem and_one32 {x : Int} (hx : 0 ≤ x) (hx' : x < 4294967296) : (((BitVec.ofInt 32 x &&& BitVec.ofInt 32 1).toNat : Nat) : Int) = x % 2 := by
  obtain ⟨a, rfl⟩ := Int.eq_ofNat_of_zero_le hx
  have e1 : (BitVec.ofInt 32 (a : Int)).toNat = a := by
    rw [BitVec.toNat_ofInt]; omega
  have e2 : (BitVec.ofInt 32 1).toNat = 1 := by decide
  rw [BitVec.toNat_and, e1, e2, Nat.and_one_is_mod]
  omega

def sinX (q s : Int) (K : KC) : Prop := Br (decide (q ≥ 2)) (K (.int .i64 (IntKind.i64.wrap (0 - s))) [] []) (K (.int .i64 s) [] [])
def sinG (i : Int) : Bool := decide (0 ≤ i) && decide (i ≤ 64)
def sinP (q r : Int) (K : KC) : Prop :=
  (fun i => If (sinG i) (Br (decide (r.tmod 16777216 > 0))
    (If (sinG (IntKind.i64.wrap (i + 1))) ((fun p => sinX q (IntKind.i64.wrap (tabV i + divV (wv (p / 18446744073709551616) (p % 18446744073709551616)) 16777216)) K) (IntKind.i64.wrap (tabV (IntKind.i64.wrap (i + 1)) - tabV i) * r.tmod 16777216)))
    (sinX q (tabV i) K))) (IntKind.i64.wrap (r.tdiv 16777216))
def sinW (t : Int) (K : KC) : Prop :=
  (fun q => Br (IntKind.u32.wrap ↑(BitVec.ofInt IntKind.u32.bits q &&& BitVec.ofInt IntKind.u32.bits 1).toNat == 1)
    (sinP q (IntKind.i64.wrap (1073741824 - IntKind.i64.wrap (t.tmod 1073741824))) K) (sinP q (IntKind.i64.wrap (t.tmod 1073741824)) K)) (IntKind.u32.wrap (t.tdiv 1073741824))

theorem sinP_law {q r : Int} {K : KC} (h0 : 0 ≤ r) (h1 : r ≤ 1073741824) (hK : K (.int .i64 (bif decide (q ≥ 2) then IntKind.i64.wrap (0 - sinR r) else sinR r)) [] []) : sinP q r K := by
  have hi : IntKind.i64.wrap (r.tdiv 16777216) = r / 16777216 := by rw [Int.tdiv_eq_ediv_of_nonneg h0, wi64]; omega
  have hm : r.tmod 16777216 = r % 16777216 := Int.tmod_eq_emod_of_nonneg h0
  have fin : ∀ s, s = sinR r → sinX q s K := by
    rintro s rfl
    unfold sinX
    refine Br.of (fun c => ?_) fun c => ?_ <;> rw [c] at hK <;> exact hK
  unfold sinP
  rw [hi, hm]
  refine If.mk (by unfold sinG; simp only [Bool.and_eq_true, decide_eq_true_eq]; omega) (Br.of (fun c => If.mk ?_ (fin _ ?_)) fun c => fin _ ?_)
  · have c' := of_decide_eq_true c
    rw [wi64]; unfold sinG; simp only [Bool.and_eq_true, decide_eq_true_eq]; omega
  · unfold sinR
    rw [c, wv_wide, show IntKind.i64.wrap (r / 16777216 + 1) = r / 16777216 + 1 by rw [wi64]; omega]
    rfl
  · unfold sinR
    rw [c]; rfl

theorem sinW_law {t : Int} {K : KC} (h0 : 0 ≤ t) (h1 : t ≤ 4294967295) (hK : K (.int .i64 (sinF t)) [] []) : sinW t K := by
  have hq : IntKind.u32.wrap (t.tdiv 1073741824) = t / 1073741824 := by rw [Int.tdiv_eq_ediv_of_nonneg h0, wu32]; omega
  have hm : IntKind.i64.wrap (t.tmod 1073741824) = t % 1073741824 := by rw [Int.tmod_eq_emod_of_nonneg h0, wi64]; omega
  have ha : IntKind.u32.wrap ↑(BitVec.ofInt IntKind.u32.bits (t / 1073741824) &&& BitVec.ofInt IntKind.u32.bits 1).toNat = t / 1073741824 % 2 := by
    rw [wu32]
    show (((BitVec.ofInt 32 _ &&& BitVec.ofInt 32 1).toNat : Nat) : Int) % _ = _
    rw [and_one32 (by omega) (by omega)]; omega
  unfold sinW
  rw [hq, hm]
  show Br _ _ _
  rw [ha, show IntKind.i64.wrap (1073741824 - t % 1073741824) = 1073741824 - t % 1073741824 by rw [wi64]; omega]
  unfold sinF at hK
  refine Br.of (fun c => sinP_law (by omega) (by omega) ?_) fun c => sinP_law (by omega) (by omega) ?_
  · rw [c] at hK; exact hK
  · rw [c] at hK; exact hK
end Go.Se
namespace Go.Se
/-- Is y cos(t) no less than x sin(t)? -/
def holdsF (x y t : Int) : Bool := decide (cmpI (y * cosF t) (x * sinF t) ≥ 0)
def firstF (x y : Int) : Nat → Int → Int → Int
  | 0, lo, _ => lo
  | f + 1, lo, hi => bif decide (lo < hi) then (bif holdsF x y (lo + (hi - lo + 1) / 2) then firstF x y f (lo + (hi - lo + 1) / 2) hi else firstF x y f lo (lo + (hi - lo + 1) / 2 - 1)) else lo
def firstV (x y : Int) : Int := firstF x y 31 0 1073741824
end Go.Se
namespace Go.Se
def capF (x : Int) : Int := if (-9223372036854775807 : Int) > x then -9223372036854775807 else x
def twEnd (x y turns : Int) (K : KC) : Prop :=
  Br (x == 0) (Br (y == 0) (K (.int .u32 0) [] []) (K (.int .u32 (IntKind.u32.wrap (turns + firstV x y))) [] [])) (K (.int .u32 (IntKind.u32.wrap (turns + firstV x y))) [] [])
def twP : Nat → Int → Int → Int → KC → Prop
  | 0, _, _, _, _ => False
  | n + 1, x, y, turns, K => Br (decide (x < 0)) (twP n y (IntKind.i64.wrap (0 - x)) (IntKind.u32.wrap (turns + 1073741824)) K)
    (Br (decide (y < 0)) (twP n y (IntKind.i64.wrap (0 - x)) (IntKind.u32.wrap (turns + 1073741824)) K) (twEnd x y turns K))
def towN : Nat → Int → Int → Int → Int
  | 0, _, _, _ => 0
  | n + 1, x, y, turns => bif decide (x < 0) || decide (y < 0) then towN n y (-x) ((turns + 1073741824) % 4294967296) else (bif x == 0 && y == 0 then 0 else (turns + firstV x y) % 4294967296)
def towV (x y : Int) : Int := towN 5 (capF x) (capF y) 0
def rankT (x y : Int) : Nat := if x < 0 then (if y < 0 then 2 else 1) else (if y < 0 then 3 else 0)

theorem tw_law {K : KC} : ∀ (n : Nat) (x y turns : Int), rankT x y < n → -9223372036854775807 ≤ x → x ≤ 9223372036854775807 → -9223372036854775807 ≤ y → y ≤ 9223372036854775807 →
    K (.int .u32 (towN n x y turns)) [] [] → twP n x y turns K
  | 0, _, _, _, h, _, _, _, _, _ => absurd h (Nat.not_lt_zero _)
  | n + 1, x, y, turns, h, h1, h2, h3, h4, hK => by
    have step : (x < 0 ∨ y < 0) → twP n y (IntKind.i64.wrap (0 - x)) (IntKind.u32.wrap (turns + 1073741824)) K := by
      intro hor
      rw [wi64, wu32, show (0 - x + 9223372036854775808) % 18446744073709551616 - 9223372036854775808 = -x by omega]
      refine tw_law n y (-x) _ ?_ h3 h4 (by omega) (by omega) ?_
      · unfold rankT at h ⊢
        split at h <;> split at h <;> (repeat' split) <;> omega
      · unfold towN at hK
        rw [show (decide (x < 0) || decide (y < 0)) = true by simpa using hor] at hK
        exact hK
    unfold twP
    refine Br.of (fun c => step (.inl (of_decide_eq_true c))) fun c => Br.of (fun c2 => step (.inr (of_decide_eq_true c2))) fun c2 => ?_
    unfold towN at hK
    rw [c, c2] at hK
    simp only [Bool.or_self, cond_false] at hK
    unfold twEnd
    rw [wu32]
    refine Br.of (fun d => Br.of (fun d2 => ?_) fun d2 => ?_) fun d => ?_
    · rw [d, d2] at hK; exact hK
    · rw [d, d2] at hK; exact hK
    · rw [d] at hK; exact hK
end Go.Se

/- Part 26: the nearest sample: plain. -/
namespace Go.Se
def farB (x y : Int) : Bool := decide ((if y > x then y else x) > 281474976710656) || decide ((if y < x then y else x) < -281474976710656)
def farCells (X Y : Nat → Int) : Nat → List SV := fun i => [.int .i64 (X i), .int .i64 (Y i)]
/-- The first that is far, from a place on; -1: none. -/
def farFrom (X Y : Nat → Int) : Nat → Nat → Int
  | 0, _ => -1
  | f + 1, i => bif farB (X i) (Y i) then (i : Int) else farFrom X Y f (i + 1)
def px : List SV → Int
  | .int _ x :: _ => x
  | _ => 0
def py : List SV → Int
  | _ :: .int _ y :: _ => y
  | _ => 0
def pts (get : Nat → List SV) : Prop := ∀ i, get i = [.int .i64 (px (get i)), .int .i64 (py (get i))]
theorem pts_eq {get : Nat → List SV} (h : pts get) : get = farCells (fun i => px (get i)) (fun i => py (get i)) := funext h
end Go.Se
namespace Go.Se
def distF (x y a b : Int) : Int :=
  (fun u v => bif in128 (u * u + v * v) then u * u + v * v else 0) (IntKind.i64.wrap (x - a)) (IntKind.i64.wrap (y - b))
def nearF (X Y : Nat → Int) (a b : Int) : Nat → Nat → Int → Int → Int
  | 0, _, at', _ => at'
  | f + 1, i, at', B => bif decide (at' < 0) || decide (distF (X i) (Y i) a b < B) then nearF X Y a b f (i + 1) i (distF (X i) (Y i) a b) else nearF X Y a b f (i + 1) at' B
def nearV (X Y : Nat → Int) (len : Nat) (a b : Int) : Int := bif farB a b || decide (farFrom X Y len 0 ≥ 0) then -1 else nearF X Y a b len 0 (-1) 0
end Go.Se

/- Part 27: vectors and attitudes: plain. -/
namespace Go.Se
def mx (a b : Int) : Int := sat64 (rne32 (a * b))
def ox (a b : Int) : Bool := over64 (rne32 (a * b))
def plusV (a b c d : Int) : Int := sat64 (sat64 (mx a b + mx c d) + sat64 (mx a b + mx c d))
def plusO (a b c d : Int) (o : Bool) : Bool := o || ox a b || ox c d || over64 (mx a b + mx c d) || over64 (sat64 (mx a b + mx c d) + sat64 (mx a b + mx c d))
def minusV (a b c d : Int) : Int := sat64 (sat64 (mx a b - mx c d) + sat64 (mx a b - mx c d))
def minusO (a b c d : Int) (o : Bool) : Bool := o || ox a b || ox c d || over64 (mx a b - mx c d) || over64 (sat64 (mx a b - mx c d) + sat64 (mx a b - mx c d))
def ownV (a b : Int) : Int := sat64 (4294967296 - plusV a a b b)
def ownO (a b : Int) (o : Bool) : Bool := plusO a a b b o || over64 (4294967296 - plusV a a b b)
def matO (w x y z : Int) (o : Bool) : Bool :=
  ownO x y (plusO y z w x (minusO x z w y (minusO y z w x (ownO x z (plusO x y w z (plusO x z w y (minusO x y w z (ownO y z o))))))))
def matV (w x y z : Int) : List SV :=
  [.int .i64 (ownV y z), .int .i64 (minusV x y w z), .int .i64 (plusV x z w y), .int .i64 (plusV x y w z), .int .i64 (ownV x z), .int .i64 (minusV y z w x), .int .i64 (minusV x z w y), .int .i64 (plusV y z w x), .int .i64 (ownV x y)]
def dotV (a b c x y z : Int) : Int := sat64 (sat64 (mx a x + mx b y) + mx c z)
def dotO (a b c x y z : Int) (o : Bool) : Bool := o || ox a x || ox b y || ox c z || over64 (mx a x + mx b y) || over64 (sat64 (mx a x + mx b y) + mx c z)
end Go.Se

/- Part 28: what a driver does: plain. -/
namespace Go.Se
/-- What is known of the state, and the car. -/
structure Seen where
  px : Int
  py : Int
  vx : Int
  vy : Int
  vz : Int
  w : Int
  x : Int
  y : Int
  z : Int
  astray : Int
  steer : Int
def ctl (th br st : Int) (reset : Bool) : SV := .agg [.int .i64 th, .int .i64 br, .int .i64 0, .int .i64 st, .int .i64 1, .bool true, .bool reset]
def overC (t : TypeId) (o : Bool) : List (Option SB) := [some (.cells t [.bool o])]
def speedV (s : Seen) : Int := lenV (s.vx * s.vx + s.vy * s.vy + s.vz * s.vz)
def noseX (s : Seen) : Int := dotV (ownV s.y s.z) (minusV s.x s.y s.w s.z) (plusV s.x s.z s.w s.y) 4294967296 0 0
def noseY (s : Seen) : Int := dotV (plusV s.x s.y s.w s.z) (ownV s.x s.z) (minusV s.y s.z s.w s.x) 4294967296 0 0
def overN (s : Seen) (o : Bool) : Bool :=
  dotO (minusV s.x s.z s.w s.y) (plusV s.y s.z s.w s.x) (ownV s.x s.y) 4294967296 0 0 (dotO (plusV s.x s.y s.w s.z) (ownV s.x s.z) (minusV s.y s.z s.w s.x) 4294967296 0 0
    (dotO (ownV s.y s.z) (minusV s.x s.y s.w s.z) (plusV s.x s.z s.w s.y) 4294967296 0 0
      (matO s.w s.x s.y s.z (o || !lenGood (s.vx * s.vx + s.vy * s.vy + s.vz * s.vz)))))
def offV (s : Seen) (ax ay : Int) : Int := IntKind.i64.wrap (IntKind.i32.wrap (IntKind.u32.wrap (towV (sat64 (ax - s.px)) (sat64 (ay - s.py)) - towV (noseX s) (noseY s))))
def leanV (off st : Int) : Int := (fun q => (fun a => if (127 : Int) < a then 127 else a) (if (-127 : Int) > q then -127 else q)) (IntKind.i64.wrap ((IntKind.i64.wrap (off * 127)).tdiv (IntKind.i64.wrap st)))
def sizeV (off : Int) : Int := if IntKind.i64.wrap (0 - off) > off then IntKind.i64.wrap (0 - off) else off
def think5 (t : TypeId) (s : Seen) (st th br : Int) (o : Bool) (K : KC) : Prop :=
  Br (decide (ownV s.x s.y < 1073741824)) (K (ctl th br st true) (overC t o) [0]) (K (ctl th br st (decide (s.astray > 600))) (overC t o) [0])
def think4 (t : TypeId) (s : Seen) (m : Nat) (Z : Nat → Int) (i : Int) (off st : Int) (o : Bool) (K : KC) : Prop :=
  If (decide (0 ≤ i) && decide (i < (m : Int))) ((fun wn o =>
    Br (decide (speedV s > sat64 (wn + 8589934592))) (think5 t s st 0 255 o K)
      (Br (decide (speedV s > wn)) (think5 t s st 0 0 o K)
        (Br (decide (sizeV off > 536870912)) (think5 t s st 128 0 o K) (think5 t s st 255 0 o K)))) (Z i.toNat) (o || over64 (Z i.toNat + 8589934592)))
def think3 (t : TypeId) (s : Seen) (m : Nat) (Z : Nat → Int) (i : Int) (off : Int) (o : Bool) (K : KC) : Prop :=
  Br (s.steer == 0) (think4 t s m Z i off 0 o K) (If (IntKind.i64.wrap s.steer != 0) (think4 t s m Z i off (leanV off s.steer) o K))
def think2 (t : TypeId) (s : Seen) (n m : Nat) (X Y Z : Nat → Int) (i : Int) (o : Bool) (K : KC) : Prop :=
  If ((n : Int) != 0) ((fun ix => If (decide (0 ≤ ix) && decide (ix < (n : Int)))
    (think3 t s m Z i (offV s (X ix.toNat) (Y ix.toNat)) (overN s o || over64 (X ix.toNat - s.px) || over64 (Y ix.toNat - s.py)) K))
    ((IntKind.i64.wrap (i + IntKind.i64.wrap (1 + IntKind.i64.wrap (((speedV s).fdiv 4294967296).tdiv 8)))).tmod n))
def thinkP (t : TypeId) (s : Seen) (n m : Nat) (X Y Z : Nat → Int) (o : Bool) (K : KC) : Prop :=
  Br ((n : Int) != (m : Int)) (K (ctl 0 255 0 false) (overC t o) [])
    (pts (farCells X Y) ∧ Br (decide (nearV X Y n s.px s.py < 0)) (K (ctl 0 255 0 false) (overC t o) []) (think2 t s n m X Y Z (nearV X Y n s.px s.py) o K))
def whatSeen (Vc Vs : Val) : Seen :=
  ⟨Vs.int [0, 0, 0], Vs.int [0, 0, 1], Vs.int [0, 1, 0], Vs.int [0, 1, 1], Vs.int [0, 1, 2], Vs.int [0, 2, 0], Vs.int [0, 2, 1], Vs.int [0, 2, 2], Vs.int [0, 2, 3], Vs.int [3, 7], Vc.int [23]⟩
end Go.Se

/- Part 29: what a driver does: the law. -/
namespace Go.Se

theorem nearF_range (X Y : Nat → Int) (a b : Int) : ∀ (f i : Nat) (c B : Int), -1 ≤ c → c < i → -1 ≤ nearF X Y a b f i c B ∧ nearF X Y a b f i c B < (i + f : Nat)
  | 0, i, c, B, h0, h1 => ⟨h0, by show c < _; simpa using h1⟩
  | f + 1, i, c, B, h0, h1 => by
    unfold nearF
    cases decide (c < 0) || decide (distF (X i) (Y i) a b < B)
    · have := nearF_range X Y a b f (i + 1) c B h0 (by omega)
      simp only [cond_false]; omega
    · have := nearF_range X Y a b f (i + 1) i (distF (X i) (Y i) a b) (by omega) (by omega)
      simp only [cond_true]; omega
theorem nearV_range (X Y : Nat → Int) (n : Nat) (a b : Int) : -1 ≤ nearV X Y n a b ∧ (0 ≤ nearV X Y n a b → nearV X Y n a b < n) := by
  unfold nearV
  cases farB a b || decide (farFrom X Y n 0 ≥ 0)
  · have := nearF_range X Y a b n 0 (-1) 0 (by omega) (by omega)
    simp only [cond_false]
    exact ⟨this.1, fun _ => by have := this.2; omega⟩
  · simp only [cond_true]
    exact ⟨by omega, fun h => by omega⟩

theorem lenV_range {N : Int} (h : 0 ≤ N) : 0 ≤ lenV N ∧ lenV N ≤ 9223372036854775807 := by
  unfold lenV
  cases hg : lenGood N with
  | false => simp only [cond_false]; omega
  | true =>
    unfold lenGood at hg
    simp only [Bool.and_eq_true, decide_eq_true_eq] at hg
    have := isqrt_ok h hg.1
    simp only [cond_true]; omega
theorem sq_nonneg (x : Int) : 0 ≤ x * x := by rw [← Int.natAbs_mul_self]; omega
theorem speed_range (s : Seen) : 0 ≤ speedV s ∧ speedV s ≤ 9223372036854775807 := by
  unfold speedV
  have := sq_nonneg s.vx; have := sq_nonneg s.vy; have := sq_nonneg s.vz
  exact lenV_range (by omega)

def aheadV (s : Seen) (n : Nat) (i : Int) : Int := (i + (1 + speedV s / 4294967296 / 8)) % n
def stopB (s : Seen) (n m : Nat) (X Y : Nat → Int) : Bool := ((n : Int) != (m : Int)) || decide (nearV X Y n s.px s.py < 0)
def offT (s : Seen) (n : Nat) (X Y : Nat → Int) : Int := offV s (X (aheadV s n (nearV X Y n s.px s.py)).toNat) (Y (aheadV s n (nearV X Y n s.px s.py)).toNat)
def wantT (s : Seen) (n : Nat) (X Y Z : Nat → Int) : Int := Z (nearV X Y n s.px s.py).toNat
def steerT (s : Seen) (n : Nat) (X Y : Nat → Int) : Int := bif s.steer == 0 then 0 else leanV (offT s n X Y) s.steer
def fastB (s : Seen) (w : Int) : Bool := decide (speedV s > sat64 (w + 8589934592))
def thT (s : Seen) (w off : Int) : Int := bif fastB s w then 0 else bif decide (speedV s > w) then 0 else bif decide (sizeV off > 536870912) then 128 else 255
def brT (s : Seen) (w : Int) : Int := bif fastB s w then 255 else 0
def thinkV (s : Seen) (n m : Nat) (X Y Z : Nat → Int) : SV :=
  ctl (bif stopB s n m X Y then 0 else thT s (wantT s n X Y Z) (offT s n X Y)) (bif stopB s n m X Y then 255 else brT s (wantT s n X Y Z))
    (bif stopB s n m X Y then 0 else steerT s n X Y) (bif stopB s n m X Y then false else (decide (ownV s.x s.y < 1073741824) || decide (s.astray > 600)))
def thinkO (s : Seen) (n m : Nat) (X Y Z : Nat → Int) (o : Bool) : Bool :=
  bif stopB s n m X Y then o
  else overN s o || over64 (X (aheadV s n (nearV X Y n s.px s.py)).toNat - s.px) || over64 (Y (aheadV s n (nearV X Y n s.px s.py)).toNat - s.py) || over64 (wantT s n X Y Z + 8589934592)

theorem think5_law {t : TypeId} {s : Seen} {st th br : Int} {o : Bool} {K : KC} (hK : K (ctl th br st (decide (ownV s.x s.y < 1073741824) || decide (s.astray > 600))) (overC t o) [0]) : think5 t s st th br o K := by
  unfold think5
  refine Br.of (fun c => ?_) fun c => ?_ <;> rw [c] at hK <;> exact hK

theorem thinkP_law {t : TypeId} {s : Seen} {n m : Nat} {X Y Z : Nat → Int} {o : Bool} {K : KC} (hn : n ≤ 1000000) (hs : 0 ≤ s.steer) (hs' : s.steer ≤ 4294967295)
    (hK : ∀ d, (∀ p, p ∈ d → p ∈ [0]) → K (thinkV s n m X Y Z) (overC t (thinkO s n m X Y Z o)) d) : thinkP t s n m X Y Z o K := by
  unfold thinkP
  refine Br.of (fun c => ?_) fun c => ⟨fun _ => rfl, Br.of (fun c2 => ?_) fun c2 => ?_⟩
  · have := hK [] fun p h => nomatch h
    unfold thinkV thinkO stopB at this
    rw [c] at this; exact this
  · have := hK [] fun p h => nomatch h
    unfold thinkV thinkO stopB at this
    rw [c, c2] at this; exact this
  · have hK := hK [0] fun p h => h
    have hstop : stopB s n m X Y = false := by unfold stopB; rw [c, c2]; rfl
    unfold thinkV thinkO at hK
    rw [hstop] at hK
    simp only [cond_false] at hK
    have hnm : (n : Int) = m := by simpa using c
    have hi0 := of_decide_eq_false c2
    have hr := nearV_range X Y n s.px s.py
    have hi1 := hr.2 (by omega)
    have hsp := speed_range s
    unfold wantT steerT offT at hK
    unfold aheadV at hK
    generalize hiv : nearV X Y n s.px s.py = i at *
    have hix : (IntKind.i64.wrap (i + IntKind.i64.wrap (1 + IntKind.i64.wrap (((speedV s).fdiv 4294967296).tdiv 8)))).tmod n = (i + (1 + speedV s / 4294967296 / 8)) % n := by
      rw [fdiv_pos _ (by decide), Int.tdiv_eq_ediv_of_nonneg (by omega)]
      simp only [wi64]
      rw [show ((i + ((1 + ((speedV s / 4294967296 / 8 + 9223372036854775808) % 18446744073709551616 - 9223372036854775808) + 9223372036854775808) % 18446744073709551616 - 9223372036854775808) + 9223372036854775808) % 18446744073709551616 - 9223372036854775808) = i + (1 + speedV s / 4294967296 / 8) by omega]
      exact Int.tmod_eq_emod_of_nonneg (by omega)
    unfold think2
    refine If.mk (by rw [bne_iff_ne]; omega) ?_
    show If _ _
    rw [hix]
    have hm0 := Int.emod_nonneg (i + (1 + speedV s / 4294967296 / 8)) (show (n : Int) ≠ 0 by omega)
    have hm1 := Int.emod_lt_of_pos (i + (1 + speedV s / 4294967296 / 8)) (show 0 < (n : Int) by omega)
    refine If.mk (by simp only [Bool.and_eq_true, decide_eq_true_eq]; omega) ?_
    generalize (i + (1 + speedV s / 4294967296 / 8)) % (n : Int) = ix at *
    have h4 : ∀ st, st = (bif s.steer == 0 then 0 else leanV (offV s (X ix.toNat) (Y ix.toNat)) s.steer) →
        think4 t s m Z i (offV s (X ix.toNat) (Y ix.toNat)) st (overN s o || over64 (X ix.toNat - s.px) || over64 (Y ix.toNat - s.py)) K := by
      rintro st rfl
      unfold think4
      refine If.mk (by simp only [Bool.and_eq_true, decide_eq_true_eq]; omega) ?_
      show Br _ _ _
      unfold thT brT fastB at hK
      refine Br.of (fun d1 => think5_law ?_) fun d1 => Br.of (fun d2 => think5_law ?_) fun d2 => Br.of (fun d3 => think5_law ?_) fun d3 => think5_law ?_
      · rw [d1] at hK; exact hK
      · rw [d1, d2] at hK; exact hK
      · rw [d1, d2, d3] at hK; exact hK
      · rw [d1, d2, d3] at hK; exact hK
    unfold think3
    refine Br.of (fun e => h4 _ ?_) fun e => If.mk ?_ (h4 _ ?_)
    · rw [e]; rfl
    · have : s.steer ≠ 0 := by simpa using e
      rw [bne_iff_ne, wi64]; omega
    · rw [e]; rfl
end Go.Se

/- Part 30: is a car small? plain. -/
namespace Go.Se
def rowsC (L : Nat → Nat) (G : Nat → Nat → List SV) : Nat → List SV := fun i => [.ro (L i) 1 (G i)]
def fewRows (L : Nat → Nat) : Nat → Nat → Bool
  | 0, _ => true
  | f + 1, i => bif decide ((L i : Int) > 40) then false else fewRows L f (i + 1)
def fewV (a b c : Nat) (L : Nat → Nat) : Bool := bif decide ((a : Int) > 40) || decide ((b : Int) > 40) || decide ((c : Int) > 40) then false else fewRows L c 0
end Go.Se

/- Part 31: what is thought is a right control: plain. -/
namespace Go.Se
def thW (s : Seen) (n m : Nat) (X Y Z : Nat → Int) : Int := bif stopB s n m X Y then 0 else thT s (wantT s n X Y Z) (offT s n X Y)
def brW (s : Seen) (n m : Nat) (X Y Z : Nat → Int) : Int := bif stopB s n m X Y then 255 else brT s (wantT s n X Y Z)
def stW (s : Seen) (n m : Nat) (X Y : Nat → Int) : Int := bif stopB s n m X Y then 0 else steerT s n X Y
def rsW (s : Seen) (n m : Nat) (X Y : Nat → Int) : Bool := bif stopB s n m X Y then false else (decide (ownV s.x s.y < 1073741824) || decide (s.astray > 600))
def fastF (Z : Nat → Int) : Nat → Nat → Bool → Bool
  | 0, _, b => b
  | f + 1, i, b => fastF Z f (i + 1) (b && decide (Z i < -8589934592))
theorem fastF_all (Z : Nat → Int) : ∀ (f i : Nat) (b : Bool), fastF Z f i b = true → b = true ∧ ∀ j, i ≤ j → j < i + f → Z j < -8589934592
  | 0, i, b, h => ⟨h, fun j h1 h2 => by omega⟩
  | f + 1, i, b, h => by
    obtain ⟨h1, h2⟩ := fastF_all Z f (i + 1) _ h
    simp only [Bool.and_eq_true, decide_eq_true_eq] at h1
    refine ⟨h1.1, fun j a b => ?_⟩
    by_cases hj : j = i
    · subst hj; exact h1.2
    · exact h2 j (by omega) (by omega)
theorem leanV_range (off st : Int) : -127 ≤ leanV off st ∧ leanV off st ≤ 127 := by
  unfold leanV
  generalize IntKind.i64.wrap ((IntKind.i64.wrap (off * 127)).tdiv (IntKind.i64.wrap st)) = q
  show -127 ≤ (if (127 : Int) < (if (-127 : Int) > q then -127 else q) then 127 else (if (-127 : Int) > q then -127 else q)) ∧ (if (127 : Int) < (if (-127 : Int) > q then -127 else q) then 127 else (if (-127 : Int) > q then -127 else q)) ≤ 127
  split <;> split <;> omega
theorem stW_range (s : Seen) (n m : Nat) (X Y : Nat → Int) : -127 ≤ stW s n m X Y ∧ stW s n m X Y ≤ 127 := by
  unfold stW steerT
  cases stopB s n m X Y <;> cases (s.steer == 0) <;> simp only [cond_true, cond_false] <;> first | exact leanV_range _ _ | omega
theorem right_cases (s : Seen) (n m : Nat) (X Y Z : Nat → Int) :
    ((thW s n m X Y Z = 0 ∧ brW s n m X Y Z = 255) ∨ ((thW s n m X Y Z = 0 ∨ thW s n m X Y Z = 128 ∨ thW s n m X Y Z = 255) ∧ brW s n m X Y Z = 0 ∧ fastF Z m 0 true = false)) := by
  unfold thW brW
  cases hs : stopB s n m X Y with
  | true => exact .inl ⟨rfl, rfl⟩
  | false =>
    simp only [cond_false]
    unfold thT brT
    cases hf : fastB s (wantT s n X Y Z) with
    | true => exact .inl ⟨rfl, rfl⟩
    | false =>
      refine .inr ⟨?_, rfl, ?_⟩
      · simp only [cond_false]
        cases decide (speedV s > wantT s n X Y Z) <;> cases decide (sizeV (offT s n X Y) > 536870912) <;> simp
      · cases hall : fastF Z m 0 true with
        | false => rfl
        | true =>
          exfalso
          unfold stopB at hs
          simp only [Bool.or_eq_false_iff, decide_eq_false_iff_not, bne_eq_false_iff_eq] at hs
          have hr := nearV_range X Y n s.px s.py
          have h1 := hr.2 (by omega)
          have hz := (fastF_all Z m 0 true hall).2 (nearV X Y n s.px s.py).toNat (by omega) (by omega)
          unfold fastB wantT at hf
          have hsp := speed_range s
          have hsat : sat64 (Z (nearV X Y n s.px s.py).toNat + 8589934592) < 0 := by
            unfold sat64
            by_cases h : Z (nearV X Y n s.px s.py).toNat + 8589934592 < -9223372036854775808
            · rw [decide_eq_true h]; simp only [cond_true]; omega
            · rw [decide_eq_false h, decide_eq_false (show ¬ 9223372036854775807 < Z (nearV X Y n s.px s.py).toNat + 8589934592 by omega)]; simp only [cond_false]; omega
          have := of_decide_eq_false hf
          omega
end Go.Se

