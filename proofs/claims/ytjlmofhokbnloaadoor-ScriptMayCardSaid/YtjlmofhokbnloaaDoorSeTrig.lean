/- Part 25: sines and directions: plain. -/
import Derived.Test.YtjlmofhokbnloaaDoorSeArith
namespace Go.Se
def sinTab : List Int := [0, 105403774, 210744057, 315957395, 420980412, 525749847, 630202589, 734275721, 837906553, 941032661, 1043591926, 1145522571, 1246763195,
  1347252816, 1446930903, 1545737412, 1643612827, 1740498191, 1836335144, 1931065957, 2024633568, 2116981616, 2208054473, 2297797281, 2386155981, 2473077351,
  2558509031, 2642399561, 2724698408, 2805355999, 2884323748, 2961554089, 3037000500, 3110617535, 3182360851, 3252187232, 3320054617, 3385922125, 3449750080,
  3511500034, 3571134792, 3628618433, 3683916329, 3736995171, 3787822988, 3836369162, 3882604450, 3926501002, 3968032378, 4007173558, 4043900968, 4078192482,
  4110027446, 4139386683, 4166252509, 4190608739, 4212440704, 4231735252, 4248480760, 4262667143, 4274285855, 4283329896, 4289793820, 4293673732, 4294967296]
def tabV (k : Int) : Int := bif decide (k < 0) || decide (k > 64) then 0 else sinTab.getD k.toNat 0
def trigMul (a b : Int) : Int := divV (a * b) 1000000000000000000
/-- A sine of the first quarter. -/
def sinR (r : Int) : Int := bif decide (r % 16777216 > 0) then IntKind.i64.wrap (tabV (r / 16777216) + divV (IntKind.i64.wrap (tabV (r / 16777216 + 1) - tabV (r / 16777216)) * (r % 16777216)) 16777216) else tabV (r / 16777216)
def sinF (t : Int) : Int :=
  (fun s => bif decide (t / 1073741824 ≥ 2) then IntKind.i64.wrap (0 - s) else s) (sinR (bif t / 1073741824 % 2 == 1 then 1073741824 - t % 1073741824 else t % 1073741824))
def cosF (t : Int) : Int := sinF ((t + 1073741824) % 4294967296)

def sinX (q s : Int) (K : KC) : Prop := Br (decide (q ≥ 2)) (K (.int .i64 (IntKind.i64.wrap (0 - s))) [] []) (K (.int .i64 s) [] [])
def sinG (i : Int) : Bool := decide (0 ≤ i) && decide (i ≤ 64)
def sinP (q r : Int) (K : KC) : Prop :=
  (fun i => If (sinG i) (Br (decide (r.tmod 16777216 > 0))
    (If (sinG (IntKind.i64.wrap (i + 1))) ((fun p => sinX q (IntKind.i64.wrap (tabV i + divV (wv (p / 18446744073709551616) (p % 18446744073709551616)) 16777216)) K) (IntKind.i64.wrap (tabV (IntKind.i64.wrap (i + 1)) - tabV i) * r.tmod 16777216)))
    (sinX q (tabV i) K))) (IntKind.i64.wrap (r.tdiv 16777216))
def sinW (t : Int) (K : KC) : Prop :=
  (fun q => Br (IntKind.u32.wrap ↑(BitVec.ofInt IntKind.u32.bits q &&& BitVec.ofInt IntKind.u32.bits 1).toNat == 1)
    (sinP q (IntKind.i64.wrap (1073741824 - IntKind.i64.wrap (t.tmod 1073741824))) K) (sinP q (IntKind.i64.wrap (t.tmod 1073741824)) K)) (IntKind.u32.wrap (t.tdiv 1073741824))

end Go.Se
namespace Go.Se
/-- Is y cos(t) no less than x sin(t)? -/
def holdsF (x y t : Int) : Bool := decide (cmpI (y * cosF t) (x * sinF t) ≥ 0)
def firstF (x y : Int) : Nat → Int → Int → Int
  | 0, lo, _ => lo
  | f + 1, lo, hi => bif decide (lo < hi) then (bif holdsF x y (lo + (hi - lo + 1) / 2) then firstF x y f (lo + (hi - lo + 1) / 2) hi else firstF x y f lo (lo + (hi - lo + 1) / 2 - 1)) else lo
def firstV (x y : Int) : Int := firstF x y 31 0 1073741824
end Go.Se
namespace Go.Se
def capF (x : Int) : Int := if (-9223372036854775807 : Int) > x then -9223372036854775807 else x
def twEnd (x y turns : Int) (K : KC) : Prop :=
  Br (x == 0) (Br (y == 0) (K (.int .u32 0) [] []) (K (.int .u32 (IntKind.u32.wrap (turns + firstV x y))) [] [])) (K (.int .u32 (IntKind.u32.wrap (turns + firstV x y))) [] [])
def twP : Nat → Int → Int → Int → KC → Prop
  | 0, _, _, _, _ => False
  | n + 1, x, y, turns, K => Br (decide (x < 0)) (twP n y (IntKind.i64.wrap (0 - x)) (IntKind.u32.wrap (turns + 1073741824)) K)
    (Br (decide (y < 0)) (twP n y (IntKind.i64.wrap (0 - x)) (IntKind.u32.wrap (turns + 1073741824)) K) (twEnd x y turns K))
def towN : Nat → Int → Int → Int → Int
  | 0, _, _, _ => 0
  | n + 1, x, y, turns => bif decide (x < 0) || decide (y < 0) then towN n y (-x) ((turns + 1073741824) % 4294967296) else (bif x == 0 && y == 0 then 0 else (turns + firstV x y) % 4294967296)
def towV (x y : Int) : Int := towN 5 (capF x) (capF y) 0
def rankT (x y : Int) : Nat := if x < 0 then (if y < 0 then 2 else 1) else (if y < 0 then 3 else 0)

end Go.Se

