import Derived.Test.YthnikhkcnapcaaaDoorTj
namespace Go.Proofs.YthnikhkcnapcaaaDoor
open Go.Se
set_option maxRecDepth 100000
def rnR : List (Nat × Keep) := [(0, ⟨[3, 0, 2], [], [], 0, []⟩)]
def rnS (X Y : Nat → Int) (n : Nat) (i : Int) : St := ⟨[(3, .int .i64 i), (0, .ro n 2 (farCells X Y)), (2, .bool false)], [], 0, [], 40⟩
noncomputable abbrev rnE : Env := envL rnR (fun _ => 0) s2 1
def roR : List (Nat × Keep) := [(0, ⟨[3, 0, 2], [], [], 0, []⟩)]
def roS (X Y : Nat → Int) (n : Nat) (r : Bool) (i : Int) : St := ⟨[(3, .int .i64 i), (0, .ro n 2 (farCells X Y)), (2, .bool r)], [], 0, [], 15⟩
noncomputable abbrev roE : Env := envL roR (fun _ => 0) s2 1
theorem farB_or (x y : Int) : farB x y = (decide (x > 281474976710656) || (decide (x < -281474976710656) || (decide (y > 281474976710656) || decide (y < -281474976710656)))) := by unfold farB; grind
def cRNear : List SV → List (Option SB) → KC → Prop
  | [.ro n 2 g], [], K => pts g ∧ K (.bool (!anyB (fun i => farB (px (g i)) (py (g i))) n)) [] []
  | [.arr 0 0 3 3], [some (.cells t [.int .i64 ax, .int .i64 ay, .int .i64 bx, .int .i64 ey, .int .i64 x, .int .i64 y])], K =>
    K (.bool (!farT ax ay bx ey x y)) [some (.cells t [.int .i64 ax, .int .i64 ay, .int .i64 bx, .int .i64 ey, .int .i64 x, .int .i64 y])] []
  | _, _, _ => False
def cROffs : List SV → List (Option SB) → KC → Prop
  | [.ro n 2 g], [], K => pts g ∧ K (.bool (anyB (fun i => offP (px (g i)) (py (g i))) n)) [] []
  | _, _, _ => False
noncomputable def s3 : Know Tryd.prog := s2
def rrR : List (Nat × Keep) := [(0, ⟨[3, 0, 2], [], [], 0, []⟩)]
def rrS (X Y : Nat → Int) (n : Nat) (r : Int) (i : Int) : St := ⟨[(3, .int .i64 i), (0, .ro n 2 (farCells X Y)), (2, .int .i64 r)], [], 0, [], 30⟩
noncomputable abbrev rrE : Env := envL rrR (fun _ => 0) s3 1
def railW (n : Nat) (X Y : Nat → Int) : Int :=
  bif !(decide ((2 : Int) ≤ n) && decide ((n : Int) ≤ 64)) then 42 else bif anyB (fun k => offP (X k) (Y k)) n then 40 else bif dupB X Y n then 43 else 0
def cRRail : List SV → List (Option SB) → KC → Prop
  | [.ro n 2 g], [], K => pts g ∧ K (.int .i64 (railW n (fun i => px (g i)) (fun i => py (g i)))) [] []
  | _, _, _ => False
noncomputable def s4 : Know Tryd.prog := s3
end Go.Proofs.YthnikhkcnapcaaaDoor
