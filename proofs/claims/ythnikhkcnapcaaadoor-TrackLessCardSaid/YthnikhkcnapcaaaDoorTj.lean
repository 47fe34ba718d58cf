import Derived.Test.YthnikhkcnapcaaaDoorTi
import Derived.Test.YthnikhkcnapcaaaDoorRe
namespace Go.Proofs.YthnikhkcnapcaaaDoor
open Go.Se
set_option maxRecDepth 100000
def cRIn : List SV → List (Option SB) → Out
  | [.int .i64 x, .int .i64 l, .int .i64 h], [] => some (.bool (inR x l h), [], [])
  | _, _ => none
def cROff : List SV → List (Option SB) → Out
  | [.agg [.int .i64 x, .int .i64 y]], [] => some (.bool (offP x y), [], [])
  | _, _ => none
noncomputable def s1 : Know Tryd.prog := q5
def gateW (a b c d : Int) : Int := bif offP a b || offP c d then 40 else bif a == c && b == d then 43 else 0
def cRGate : List SV → List (Option SB) → Out
  | [.agg [.int .i64 a, .int .i64 b, .int .i64 c, .int .i64 d, .bool _]], [] => some (.int .i64 (gateW a b c d), [], [])
  | _, _ => none
/-! ### Heights. -/
def rhR : List (Nat × Keep) := [(0, ⟨[1, 2, 3], [0], [1, 2, 3, 4], 1, []⟩), (2, ⟨[1, 2, 4], [0], [1, 2, 3, 4], 1, []⟩)]
def rhS (t : Trk) (i : Int) : St := ⟨[(1, .ptr 0 0), (2, .bool false), (3, .int .i64 i)], [(0, some (.cells 34 (trkC t)))], 1, [1, 2, 3, 4], 87⟩
def rhT (t : Trk) (i : Int) : St := ⟨[(1, .ptr 0 0), (2, .bool false), (4, .int .i64 i)], [(0, some (.cells 34 (trkC t)))], 1, [1, 2, 3, 4], 87⟩
noncomputable abbrev rhE : Env := envL rhR (fun _ => 0) s1 1
def heightsB (t : Trk) : Bool := !(anyB (fun i => sizeP 2199023255552 (t.h i)) t.nh || anyB (steepB t.h t.cell (t.cols + 1).toNat t.nh) t.nh)
def cHeights : List SV → List (Option SB) → KC → Prop
  | [.agg [.int .i64 a0, .int .i64 a1, .int .i64 a2, .int .i64 a3, .int .i64 a4, .int .i64 a5, .ro nh 1 h, .ro ng 1 g, .ro nk 3 kg, .ro nl 2 l, .ro nr 1 rl, .ro nt 5 gt, .int .i64 sx, .int .i64 sy, .int .u32 hd, .int .i64 lp]], [], K => trkS h g kg l rl gt ∧ countedB a2 a3 nh ng nk = true ∧ K (.bool (heightsB (trkOf a0 a1 a2 a3 a4 a5 nh h ng g nk kg nl l nr rl nt gt sx sy hd lp))) [] []
  | _, _, _ => False
noncomputable def s2 : Know Tryd.prog := s1
def rfR : List (Nat × Keep) := [(0, ⟨[1, 2, 3], [0], [1, 2, 3, 4], 1, []⟩), (2, ⟨[1, 2, 4], [0], [1, 2, 3, 4], 1, []⟩)]
def rfS (t : Trk) (r : Int) (i : Int) : St := ⟨[(1, .ptr 0 0), (2, .int .i64 r), (3, .int .i64 i)], [(0, some (.cells 34 (trkC t)))], 1, [1, 2, 3, 4], 80⟩
def rfT (t : Trk) (r : Int) (i : Int) : St := ⟨[(1, .ptr 0 0), (2, .int .i64 r), (4, .int .i64 i)], [(0, some (.cells 34 (trkC t)))], 1, [1, 2, 3, 4], 80⟩
noncomputable abbrev rfE : Env := envL rfR (fun _ => 0) s2 1
theorem size_in (m x : Int) (l : Int) (h : IntKind.i64.wrap (0 - m) = l) : (!inR x l m) = sizeP m x := by rw [← h]; exact inR_size x m
def cRField : List SV → List (Option SB) → KC → Prop
  | [.agg [.int .i64 a0, .int .i64 a1, .int .i64 a2, .int .i64 a3, .int .i64 a4, .int .i64 a5, .ro nh 1 h, .ro ng 1 g, .ro nk 3 kg, .ro nl 2 l, .ro nr 1 rl, .ro nt 5 gt, .int .i64 sx, .int .i64 sy, .int .u32 hd, .int .i64 lp]], [], K => trkS h g kg l rl gt ∧ K (.int .i64 (fieldV (trkOf a0 a1 a2 a3 a4 a5 nh h ng g nk kg nl l nr rl nt gt sx sy hd lp))) [] []
  | _, _, _ => False
end Go.Proofs.YthnikhkcnapcaaaDoor
