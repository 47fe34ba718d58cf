/- Part 34: the reference's fixed point numbers: plain. -/
import Derived.Test.YtjlmofhokbnloaaDoorSeNum
import Derived.Test.YtjlmofhokbnloaaDoorSeArith
import Derived.Test.YtjlmofhokbnloaaDoorSeTrig
namespace Go.Se
def bndP (t : TypeId) (neg : Bool) (K : KC) : Prop :=
  Br neg (K (.int .i64 (-9223372036854775808)) [some (.cells t [.bool true])] [0]) (K (.int .i64 9223372036854775807) [some (.cells t [.bool true])] [0])
def sgnQ (t : TypeId) (o neg : Bool) (n : Int) (K : KC) : Prop :=
  Br (decide (n > 9223372036854775807)) (bndP t neg K) (Br neg (K (.int .i64 (IntKind.i64.wrap (0 - IntKind.i64.wrap n))) [some (.cells t [.bool o])] []) (K (.int .i64 (IntKind.i64.wrap n)) [some (.cells t [.bool o])] []))
def sgnP (t : TypeId) (o neg : Bool) (n : Int) (K : KC) : Prop :=
  Br neg (Br (n == 9223372036854775808) (K (.int .i64 (-9223372036854775808)) [some (.cells t [.bool o])] []) (sgnQ t o neg n K)) (sgnQ t o neg n K)
def stepM (t : TypeId) (neg : Bool) (p q : Int) (K : KC) (F : Int → Prop) : Prop := Br (decide (IntKind.u64.wrap (p + q) < p)) (bndP t neg K) (F (IntKind.u64.wrap (p + q)))
def rndM (t : TypeId) (o neg : Bool) (rest p : Int) (K : KC) : Prop :=
  Br (decide (rest > 2147483648)) (stepM t neg p 1 K fun p => sgnP t o neg p K) (Br (rest == 2147483648)
    (Br (p.tmod 2 == 1) (stepM t neg p 1 K fun p => sgnP t o neg p K) (stepM t neg p 0 K fun p => sgnP t o neg p K)) (stepM t neg p 0 K fun p => sgnP t o neg p K))
def mulM (t : TypeId) (o neg : Bool) (x1 x0 y1 y0 : Int) (K : KC) : Prop :=
  Br (decide (IntKind.u64.wrap (x1 * y1) ≥ 4294967296)) (bndP t neg K)
    (stepM t neg (IntKind.u64.wrap (IntKind.u64.wrap (x1 * y1) * 4294967296)) (IntKind.u64.wrap (x1 * y0)) K fun p => stepM t neg p (IntKind.u64.wrap (x0 * y1)) K fun p =>
      stepM t neg p (IntKind.u64.wrap ((IntKind.u64.wrap (x0 * y0)).tdiv 4294967296)) K fun p => rndM t o neg ((IntKind.u64.wrap (x0 * y0)).tmod 4294967296) p K)
def rneA (N : Int) : Int := bif decide (N % 4294967296 > 2147483648) || (N % 4294967296 == 2147483648 && N / 4294967296 % 2 == 1) then N / 4294967296 + 1 else N / 4294967296
theorem rne32_A (p : Int) : rne32 p = rneA p := rfl
def addM (t : TypeId) (o : Bool) (a b : Int) (K : KC) : Prop :=
  (fun low fin => Br (decide (b > 0)) (Br (decide (a > IntKind.i64.wrap (9223372036854775807 - b))) (K (.int .i64 9223372036854775807) [some (.cells t [.bool true])] [0]) (Br (decide (b < 0)) low fin)) (Br (decide (b < 0)) low fin))
    (Br (decide (a < IntKind.i64.wrap (-9223372036854775808 - b))) (K (.int .i64 (-9223372036854775808)) [some (.cells t [.bool true])] [0]) (K (.int .i64 (IntKind.i64.wrap (a + b))) [some (.cells t [.bool o])] []))
    (K (.int .i64 (IntKind.i64.wrap (a + b))) [some (.cells t [.bool o])] [])
def subM (t : TypeId) (o : Bool) (a b : Int) (K : KC) : Prop :=
  (fun low fin => Br (decide (b < 0)) (Br (decide (a > IntKind.i64.wrap (9223372036854775807 + b))) (K (.int .i64 9223372036854775807) [some (.cells t [.bool true])] [0]) (Br (decide (b > 0)) low fin)) (Br (decide (b > 0)) low fin))
    (Br (decide (a < IntKind.i64.wrap (-9223372036854775808 + b))) (K (.int .i64 (-9223372036854775808)) [some (.cells t [.bool true])] [0]) (K (.int .i64 (IntKind.i64.wrap (a - b))) [some (.cells t [.bool o])] []))
    (K (.int .i64 (IntKind.i64.wrap (a - b))) [some (.cells t [.bool o])] [])
end Go.Se

/- Part 35: sines rise, and so directions are found bit by bit as by halving: plain. -/
namespace Go.Se
def rsinP (q r : Int) (K : KC) : Prop :=
  (fun i => If (sinG i) (Br (decide (i < 64)) (If (sinG (IntKind.i64.wrap (i + 1))) ((fun p => If (okX p) (sinX q (IntKind.i64.wrap (tabV i + divV (nvX p) 16777216)) K)) (IntKind.i64.wrap (tabV (IntKind.i64.wrap (i + 1)) - tabV i) * r.tmod 16777216)))
    (sinX q (tabV i) K))) (IntKind.i64.wrap (r.tdiv 16777216))
def rsinW (t : Int) (K : KC) : Prop :=
  (fun q => Br (q.tmod 2 == 1) (rsinP q (IntKind.i64.wrap (1073741824 - IntKind.i64.wrap (t.tmod 1073741824))) K) (rsinP q (IntKind.i64.wrap (t.tmod 1073741824)) K)) (IntKind.u32.wrap (t.tdiv 1073741824))
structure Last (x y t : Int) : Prop where
  lo : 0 ≤ t
  hi : t ≤ 1073741824
  at' : holdsF x y t = true
  beyond : ∀ s, t < s → s ≤ 1073741824 → holdsF x y s = false
end Go.Se

