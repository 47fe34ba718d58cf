import Derived.Test.YtbedljhbakdghaaGreatDoorVa
import Derived.Test.YtbedljhbakdghaaGreatDoorSeWire
namespace Go.Proofs.YtbedljhbakdghaaGreatDoor
open Go.Se
set_option maxRecDepth 100000
def tkR : List (Nat × Keep) := [(0, ⟨[1, 5, 6, 7], [0, 1], [0, 1, 2, 3, 4, 5, 6], 2, [(5, 1)]⟩)]
def tkS (fv : SV) (n : Int) (B : List Int) (i : Nat) (o : SV) (b : Option SB) (s : Rs) : St := ⟨[(1, fv), (5, o), (6, .int .i64 n), (7, .int .i64 i)], [(0, some (.cells 136 (rdC B s))), (1, b)], 2, [0, 1, 2, 3, 4, 5, 6], 16⟩
abbrev tkP : List Nat := [1, 1, 0, 1, 0]
noncomputable abbrev tkfxE : Env := envL tkR (fun _ => 0) r2 1
noncomputable abbrev tkfxF : Func := Tryz.f44
theorem tkfx_entry (n : Int) (B : List Int) (s : Rs) (K : KC) : runL tkR (fun _ => 0) r2 2 44 [.int .i64 n, (.fn (.func 42) [.agg [.ptr 0 0]] [])] (inB B s) K =
  (∃ q_, loopE tkfxE (keepW tkR 1) tkfxF tkP 0 1 K q_ { tmps := [(1, SV.fn (Fn.func 42) [SV.agg [SV.ptr 0 0]] []), (5, SV.nils), (6, SV.int .i64 n), (7, SV.int .i64 0)], store := [(0, some (SB.cells 136 [SV.ro B.length 1 (bG B), SV.int .i64 s.pos, SV.int .i64 s.last, SV.int .i64 s.err, SV.int .i64 s.place])), (1, none)], nxt := 2, dirty := [0, 1, 2, 3, 4, 5, 6], nt := 16 }) := by kernel_rfl
theorem tkfx_r0 (n : Int) (B : List Int) (s : Rs) (K : Ex → St → Prop) : roundE tkfxE (keepW tkR 1) tkfxF tkP 0 K (tkS (.fn (.func 42) [.agg [.ptr 0 0]] []) n B 0 .nils none s) =
  (Br (decide (0 < n)) (rdS (numR) B s fun (a87 : Int) (s86 : Rs) => K Ex.normal { tmps := [(1, SV.fn (Fn.func 42) [SV.agg [SV.ptr 0 0]] []), (5, SV.own 1 0 1 1), (6, SV.int .i64 n), (7, SV.int .i64 1)], store := [(0, some (SB.cells 136 (rdC B s86))), (1, some (SB.row 22 1 1 fun (i : Nat) => cut [SV.int .i64 a87] (i * 1) 1))], nxt := 2, dirty := [0, 1, 2, 3, 4, 5, 6], nt := 16 }) (K (Ex.exit 0) { tmps := [(1, SV.fn (Fn.func 42) [SV.agg [SV.ptr 0 0]] []), (5, SV.nils), (6, SV.int .i64 n), (7, SV.int .i64 0)], store := [(0, some (SB.cells 136 (rdC B s))), (1, none)], nxt := 2, dirty := [0, 1, 2, 3, 4, 5, 6], nt := 16 })) := by kernel_rfl
theorem tkfx_r1 (n : Int) (B : List Int) (i m : Nat) (g : Nat → List SV) (s : Rs) (K : Ex → St → Prop) : roundE tkfxE (keepW tkR 1) tkfxF tkP 0 K (tkS (.fn (.func 42) [.agg [.ptr 0 0]] []) n B i (.own 1 0 1 m) (some (.row 22 1 m g)) s) =
  (Br (decide ((↑i : Int) < n)) (rdS (numR) B s fun (a87 : Int) (s86 : Rs) => Br (decide ((m + 1) * 8 ≤ 1099511627776) && decide (m + 1 < 9223372036854775808) && decide (m = m)) (K Ex.normal { tmps := [(1, SV.fn (Fn.func 42) [SV.agg [SV.ptr 0 0]] []), (5, SV.own 1 0 1 (m + 1)), (6, SV.int .i64 n), (7, SV.int .i64 (IntKind.i64.wrap ((↑i : Int) + 1)))], store := [(0, some (SB.cells 136 (rdC B s86))), (1, some (SB.row 22 1 (m + 1) (rowPut m [SV.int .i64 a87] g)))], nxt := 2, dirty := [0, 1, 2, 3, 4, 5, 6], nt := 16 }) (False)) (K (Ex.exit 0) { tmps := [(1, SV.fn (Fn.func 42) [SV.agg [SV.ptr 0 0]] []), (5, SV.own 1 0 1 m), (6, SV.int .i64 n), (7, SV.int .i64 (↑i : Int))], store := [(0, some (SB.cells 136 (rdC B s))), (1, some (SB.row 22 1 m g))], nxt := 2, dirty := [0, 1, 2, 3, 4, 5, 6], nt := 16 })) := by kernel_rfl
theorem tkfx_a0 (n : Int) (B : List Int) (i : Nat) (s : Rs) (K : KC) : afterE tkfxE (keepW tkR 1) tkfxF tkP 1 K (.exit 0) (tkS (.fn (.func 42) [.agg [.ptr 0 0]] []) n B i .nils none s) =
  (K SV.nils [some (SB.cells 136 [SV.ro B.length 1 (bG B), SV.int .i64 s.pos, SV.int .i64 s.last, SV.int .i64 s.err, SV.int .i64 s.place])] [0]) := by kernel_rfl
theorem tkfx_a1 (n : Int) (B : List Int) (i m : Nat) (g : Nat → List SV) (s : Rs) (K : KC) : afterE tkfxE (keepW tkR 1) tkfxF tkP 1 K (.exit 0) (tkS (.fn (.func 42) [.agg [.ptr 0 0]] []) n B i (.own 1 0 1 m) (some (.row 22 1 m g)) s) =
  (K (SV.own 1 0 1 m) [some (SB.cells 136 [SV.ro B.length 1 (bG B), SV.int .i64 s.pos, SV.int .i64 s.last, SV.int .i64 s.err, SV.int .i64 s.place]), some (SB.row 22 1 m g)] [0]) := by kernel_rfl
noncomputable abbrev tkintE : Env := envL tkR (fun _ => 0) r2 1
noncomputable abbrev tkintF : Func := Tryz.f45
theorem tkint_entry (n : Int) (B : List Int) (s : Rs) (K : KC) : runL tkR (fun _ => 0) r2 2 45 [.int .i64 n, (.fn (.func 46) [.agg [.ptr 0 0]] [])] (inB B s) K =
  (∃ q_, loopE tkintE (keepW tkR 1) tkintF tkP 0 1 K q_ { tmps := [(1, SV.fn (Fn.func 46) [SV.agg [SV.ptr 0 0]] []), (5, SV.nils), (6, SV.int .i64 n), (7, SV.int .i64 0)], store := [(0, some (SB.cells 136 [SV.ro B.length 1 (bG B), SV.int .i64 s.pos, SV.int .i64 s.last, SV.int .i64 s.err, SV.int .i64 s.place])), (1, none)], nxt := 2, dirty := [0, 1, 2, 3, 4, 5, 6], nt := 16 }) := by kernel_rfl
theorem tkint_r0 (n : Int) (B : List Int) (s : Rs) (K : Ex → St → Prop) : roundE tkintE (keepW tkR 1) tkintF tkP 0 K (tkS (.fn (.func 46) [.agg [.ptr 0 0]] []) n B 0 .nils none s) =
  (Br (decide (0 < n)) (rdS (countR 0 7) B s fun (a87 : Int) (s86 : Rs) => K Ex.normal { tmps := [(1, SV.fn (Fn.func 46) [SV.agg [SV.ptr 0 0]] []), (5, SV.own 1 0 1 1), (6, SV.int .i64 n), (7, SV.int .i64 1)], store := [(0, some (SB.cells 136 (rdC B s86))), (1, some (SB.row 3 1 1 fun (i : Nat) => cut [SV.int .i64 a87] (i * 1) 1))], nxt := 2, dirty := [0, 1, 2, 3, 4, 5, 6], nt := 16 }) (K (Ex.exit 0) { tmps := [(1, SV.fn (Fn.func 46) [SV.agg [SV.ptr 0 0]] []), (5, SV.nils), (6, SV.int .i64 n), (7, SV.int .i64 0)], store := [(0, some (SB.cells 136 (rdC B s))), (1, none)], nxt := 2, dirty := [0, 1, 2, 3, 4, 5, 6], nt := 16 })) := by kernel_rfl
theorem tkint_r1 (n : Int) (B : List Int) (i m : Nat) (g : Nat → List SV) (s : Rs) (K : Ex → St → Prop) : roundE tkintE (keepW tkR 1) tkintF tkP 0 K (tkS (.fn (.func 46) [.agg [.ptr 0 0]] []) n B i (.own 1 0 1 m) (some (.row 3 1 m g)) s) =
  (Br (decide ((↑i : Int) < n)) (rdS (countR 0 7) B s fun (a87 : Int) (s86 : Rs) => Br (decide ((m + 1) * 8 ≤ 1099511627776) && decide (m + 1 < 9223372036854775808) && decide (m = m)) (K Ex.normal { tmps := [(1, SV.fn (Fn.func 46) [SV.agg [SV.ptr 0 0]] []), (5, SV.own 1 0 1 (m + 1)), (6, SV.int .i64 n), (7, SV.int .i64 (IntKind.i64.wrap ((↑i : Int) + 1)))], store := [(0, some (SB.cells 136 (rdC B s86))), (1, some (SB.row 3 1 (m + 1) (rowPut m [SV.int .i64 a87] g)))], nxt := 2, dirty := [0, 1, 2, 3, 4, 5, 6], nt := 16 }) (False)) (K (Ex.exit 0) { tmps := [(1, SV.fn (Fn.func 46) [SV.agg [SV.ptr 0 0]] []), (5, SV.own 1 0 1 m), (6, SV.int .i64 n), (7, SV.int .i64 (↑i : Int))], store := [(0, some (SB.cells 136 (rdC B s))), (1, some (SB.row 3 1 m g))], nxt := 2, dirty := [0, 1, 2, 3, 4, 5, 6], nt := 16 })) := by kernel_rfl
theorem tkint_a0 (n : Int) (B : List Int) (i : Nat) (s : Rs) (K : KC) : afterE tkintE (keepW tkR 1) tkintF tkP 1 K (.exit 0) (tkS (.fn (.func 46) [.agg [.ptr 0 0]] []) n B i .nils none s) =
  (K SV.nils [some (SB.cells 136 [SV.ro B.length 1 (bG B), SV.int .i64 s.pos, SV.int .i64 s.last, SV.int .i64 s.err, SV.int .i64 s.place])] [0]) := by kernel_rfl
theorem tkint_a1 (n : Int) (B : List Int) (i m : Nat) (g : Nat → List SV) (s : Rs) (K : KC) : afterE tkintE (keepW tkR 1) tkintF tkP 1 K (.exit 0) (tkS (.fn (.func 46) [.agg [.ptr 0 0]] []) n B i (.own 1 0 1 m) (some (.row 3 1 m g)) s) =
  (K (SV.own 1 0 1 m) [some (SB.cells 136 [SV.ro B.length 1 (bG B), SV.int .i64 s.pos, SV.int .i64 s.last, SV.int .i64 s.err, SV.int .i64 s.place]), some (SB.row 3 1 m g)] [0]) := by kernel_rfl
noncomputable abbrev tkkiE : Env := envL tkR (fun _ => 0) r2 1
noncomputable abbrev tkkiF : Func := Tryz.f47
theorem tkki_entry (n : Int) (B : List Int) (s : Rs) (K : KC) : runL tkR (fun _ => 0) r2 2 47 [.int .i64 n, (.fn (.func 48) [.agg [.ptr 0 0]] [])] (inB B s) K =
  (∃ q_, loopE tkkiE (keepW tkR 1) tkkiF tkP 0 1 K q_ { tmps := [(1, SV.fn (Fn.func 48) [SV.agg [SV.ptr 0 0]] []), (5, SV.nils), (6, SV.int .i64 n), (7, SV.int .i64 0)], store := [(0, some (SB.cells 136 [SV.ro B.length 1 (bG B), SV.int .i64 s.pos, SV.int .i64 s.last, SV.int .i64 s.err, SV.int .i64 s.place])), (1, none)], nxt := 2, dirty := [0, 1, 2, 3, 4, 5, 6], nt := 16 }) := by kernel_rfl
theorem tkki_r0 (n : Int) (B : List Int) (s : Rs) (K : Ex → St → Prop) : roundE tkkiE (keepW tkR 1) tkkiF tkP 0 K (tkS (.fn (.func 48) [.agg [.ptr 0 0]] []) n B 0 .nils none s) =
  (Br (decide (0 < n)) (rdS (kindR) B s fun (a87 : Int × Int × Bool) (s86 : Rs) => K Ex.normal { tmps := [(1, SV.fn (Fn.func 48) [SV.agg [SV.ptr 0 0]] []), (5, SV.own 1 0 3 1), (6, SV.int .i64 n), (7, SV.int .i64 1)], store := [(0, some (SB.cells 136 (rdC B s86))), (1, some (SB.row 60 3 1 fun (i : Nat) => cut [SV.int .i64 a87.fst, SV.int .i64 a87.snd.fst, SV.bool a87.snd.snd] (i * 3) 3))], nxt := 2, dirty := [0, 1, 2, 3, 4, 5, 6], nt := 16 }) (K (Ex.exit 0) { tmps := [(1, SV.fn (Fn.func 48) [SV.agg [SV.ptr 0 0]] []), (5, SV.nils), (6, SV.int .i64 n), (7, SV.int .i64 0)], store := [(0, some (SB.cells 136 (rdC B s))), (1, none)], nxt := 2, dirty := [0, 1, 2, 3, 4, 5, 6], nt := 16 })) := by kernel_rfl
theorem tkki_r1 (n : Int) (B : List Int) (i m : Nat) (g : Nat → List SV) (s : Rs) (K : Ex → St → Prop) : roundE tkkiE (keepW tkR 1) tkkiF tkP 0 K (tkS (.fn (.func 48) [.agg [.ptr 0 0]] []) n B i (.own 1 0 3 m) (some (.row 60 3 m g)) s) =
  (Br (decide ((↑i : Int) < n)) (rdS (kindR) B s fun (a87 : Int × Int × Bool) (s86 : Rs) => Br (decide ((m + 1) * 24 ≤ 1099511627776) && decide (m + 1 < 9223372036854775808) && decide (m = m)) (K Ex.normal { tmps := [(1, SV.fn (Fn.func 48) [SV.agg [SV.ptr 0 0]] []), (5, SV.own 1 0 3 (m + 1)), (6, SV.int .i64 n), (7, SV.int .i64 (IntKind.i64.wrap ((↑i : Int) + 1)))], store := [(0, some (SB.cells 136 (rdC B s86))), (1, some (SB.row 60 3 (m + 1) (rowPut m [SV.int .i64 a87.fst, SV.int .i64 a87.snd.fst, SV.bool a87.snd.snd] g)))], nxt := 2, dirty := [0, 1, 2, 3, 4, 5, 6], nt := 16 }) (False)) (K (Ex.exit 0) { tmps := [(1, SV.fn (Fn.func 48) [SV.agg [SV.ptr 0 0]] []), (5, SV.own 1 0 3 m), (6, SV.int .i64 n), (7, SV.int .i64 (↑i : Int))], store := [(0, some (SB.cells 136 (rdC B s))), (1, some (SB.row 60 3 m g))], nxt := 2, dirty := [0, 1, 2, 3, 4, 5, 6], nt := 16 })) := by kernel_rfl
theorem tkki_a0 (n : Int) (B : List Int) (i : Nat) (s : Rs) (K : KC) : afterE tkkiE (keepW tkR 1) tkkiF tkP 1 K (.exit 0) (tkS (.fn (.func 48) [.agg [.ptr 0 0]] []) n B i .nils none s) =
  (K SV.nils [some (SB.cells 136 [SV.ro B.length 1 (bG B), SV.int .i64 s.pos, SV.int .i64 s.last, SV.int .i64 s.err, SV.int .i64 s.place])] [0]) := by kernel_rfl
theorem tkki_a1 (n : Int) (B : List Int) (i m : Nat) (g : Nat → List SV) (s : Rs) (K : KC) : afterE tkkiE (keepW tkR 1) tkkiF tkP 1 K (.exit 0) (tkS (.fn (.func 48) [.agg [.ptr 0 0]] []) n B i (.own 1 0 3 m) (some (.row 60 3 m g)) s) =
  (K (SV.own 1 0 3 m) [some (SB.cells 136 [SV.ro B.length 1 (bG B), SV.int .i64 s.pos, SV.int .i64 s.last, SV.int .i64 s.err, SV.int .i64 s.place]), some (SB.row 60 3 m g)] [0]) := by kernel_rfl
noncomputable abbrev tkplE : Env := envL tkR (fun _ => 0) r2 1
noncomputable abbrev tkplF : Func := Tryz.f49
theorem tkpl_entry (n : Int) (B : List Int) (s : Rs) (K : KC) : runL tkR (fun _ => 0) r2 2 49 [.int .i64 n, (.fn (.func 43) [.agg [.ptr 0 0]] [])] (inB B s) K =
  (∃ q_, loopE tkplE (keepW tkR 1) tkplF tkP 0 1 K q_ { tmps := [(1, SV.fn (Fn.func 43) [SV.agg [SV.ptr 0 0]] []), (5, SV.nils), (6, SV.int .i64 n), (7, SV.int .i64 0)], store := [(0, some (SB.cells 136 [SV.ro B.length 1 (bG B), SV.int .i64 s.pos, SV.int .i64 s.last, SV.int .i64 s.err, SV.int .i64 s.place])), (1, none)], nxt := 2, dirty := [0, 1, 2, 3, 4, 5, 6], nt := 16 }) := by kernel_rfl
theorem tkpl_r0 (n : Int) (B : List Int) (s : Rs) (K : Ex → St → Prop) : roundE tkplE (keepW tkR 1) tkplF tkP 0 K (tkS (.fn (.func 43) [.agg [.ptr 0 0]] []) n B 0 .nils none s) =
  (Br (decide (0 < n)) (rdS (placeR) B s fun (a87 : Int × Int) (s86 : Rs) => K Ex.normal { tmps := [(1, SV.fn (Fn.func 43) [SV.agg [SV.ptr 0 0]] []), (5, SV.own 1 0 2 1), (6, SV.int .i64 n), (7, SV.int .i64 1)], store := [(0, some (SB.cells 136 (rdC B s86))), (1, some (SB.row 24 2 1 fun (i : Nat) => cut [SV.int .i64 a87.fst, SV.int .i64 a87.snd] (i * 2) 2))], nxt := 2, dirty := [0, 1, 2, 3, 4, 5, 6], nt := 16 }) (K (Ex.exit 0) { tmps := [(1, SV.fn (Fn.func 43) [SV.agg [SV.ptr 0 0]] []), (5, SV.nils), (6, SV.int .i64 n), (7, SV.int .i64 0)], store := [(0, some (SB.cells 136 (rdC B s))), (1, none)], nxt := 2, dirty := [0, 1, 2, 3, 4, 5, 6], nt := 16 })) := by kernel_rfl
theorem tkpl_r1 (n : Int) (B : List Int) (i m : Nat) (g : Nat → List SV) (s : Rs) (K : Ex → St → Prop) : roundE tkplE (keepW tkR 1) tkplF tkP 0 K (tkS (.fn (.func 43) [.agg [.ptr 0 0]] []) n B i (.own 1 0 2 m) (some (.row 24 2 m g)) s) =
  (Br (decide ((↑i : Int) < n)) (rdS (placeR) B s fun (a87 : Int × Int) (s86 : Rs) => Br (decide ((m + 1) * 16 ≤ 1099511627776) && decide (m + 1 < 9223372036854775808) && decide (m = m)) (K Ex.normal { tmps := [(1, SV.fn (Fn.func 43) [SV.agg [SV.ptr 0 0]] []), (5, SV.own 1 0 2 (m + 1)), (6, SV.int .i64 n), (7, SV.int .i64 (IntKind.i64.wrap ((↑i : Int) + 1)))], store := [(0, some (SB.cells 136 (rdC B s86))), (1, some (SB.row 24 2 (m + 1) (rowPut m [SV.int .i64 a87.fst, SV.int .i64 a87.snd] g)))], nxt := 2, dirty := [0, 1, 2, 3, 4, 5, 6], nt := 16 }) (False)) (K (Ex.exit 0) { tmps := [(1, SV.fn (Fn.func 43) [SV.agg [SV.ptr 0 0]] []), (5, SV.own 1 0 2 m), (6, SV.int .i64 n), (7, SV.int .i64 (↑i : Int))], store := [(0, some (SB.cells 136 (rdC B s))), (1, some (SB.row 24 2 m g))], nxt := 2, dirty := [0, 1, 2, 3, 4, 5, 6], nt := 16 })) := by kernel_rfl
theorem tkpl_a0 (n : Int) (B : List Int) (i : Nat) (s : Rs) (K : KC) : afterE tkplE (keepW tkR 1) tkplF tkP 1 K (.exit 0) (tkS (.fn (.func 43) [.agg [.ptr 0 0]] []) n B i .nils none s) =
  (K SV.nils [some (SB.cells 136 [SV.ro B.length 1 (bG B), SV.int .i64 s.pos, SV.int .i64 s.last, SV.int .i64 s.err, SV.int .i64 s.place])] [0]) := by kernel_rfl
theorem tkpl_a1 (n : Int) (B : List Int) (i m : Nat) (g : Nat → List SV) (s : Rs) (K : KC) : afterE tkplE (keepW tkR 1) tkplF tkP 1 K (.exit 0) (tkS (.fn (.func 43) [.agg [.ptr 0 0]] []) n B i (.own 1 0 2 m) (some (.row 24 2 m g)) s) =
  (K (SV.own 1 0 2 m) [some (SB.cells 136 [SV.ro B.length 1 (bG B), SV.int .i64 s.pos, SV.int .i64 s.last, SV.int .i64 s.err, SV.int .i64 s.place]), some (SB.row 24 2 m g)] [0]) := by kernel_rfl
noncomputable abbrev tkgaE : Env := envL tkR (fun _ => 0) r2 1
noncomputable abbrev tkgaF : Func := Tryz.f52
theorem tkga_entry (n : Int) (B : List Int) (s : Rs) (K : KC) : runL tkR (fun _ => 0) r2 2 52 [.int .i64 n, (.fn (.func 53) [.agg [.ptr 0 0]] [])] (inB B s) K =
  (∃ q_, loopE tkgaE (keepW tkR 1) tkgaF tkP 0 1 K q_ { tmps := [(1, SV.fn (Fn.func 53) [SV.agg [SV.ptr 0 0]] []), (5, SV.nils), (6, SV.int .i64 n), (7, SV.int .i64 0)], store := [(0, some (SB.cells 136 [SV.ro B.length 1 (bG B), SV.int .i64 s.pos, SV.int .i64 s.last, SV.int .i64 s.err, SV.int .i64 s.place])), (1, none)], nxt := 2, dirty := [0, 1, 2, 3, 4, 5, 6], nt := 16 }) := by kernel_rfl
theorem tkga_r0 (n : Int) (B : List Int) (s : Rs) (K : Ex → St → Prop) : roundE tkgaE (keepW tkR 1) tkgaF tkP 0 K (tkS (.fn (.func 53) [.agg [.ptr 0 0]] []) n B 0 .nils none s) =
  (Br (decide (0 < n)) (rdS (gateR) B s fun (a87 : Int × Int × Int × Int × Bool) (s86 : Rs) => K Ex.normal { tmps := [(1, SV.fn (Fn.func 53) [SV.agg [SV.ptr 0 0]] []), (5, SV.own 1 0 5 1), (6, SV.int .i64 n), (7, SV.int .i64 1)], store := [(0, some (SB.cells 136 (rdC B s86))), (1, some (SB.row 67 5 1 fun (i : Nat) => cut [SV.int .i64 a87.fst, SV.int .i64 a87.snd.fst, SV.int .i64 a87.snd.snd.fst, SV.int .i64 a87.snd.snd.snd.fst, SV.bool a87.snd.snd.snd.snd] (i * 5) 5))], nxt := 2, dirty := [0, 1, 2, 3, 4, 5, 6], nt := 16 }) (K (Ex.exit 0) { tmps := [(1, SV.fn (Fn.func 53) [SV.agg [SV.ptr 0 0]] []), (5, SV.nils), (6, SV.int .i64 n), (7, SV.int .i64 0)], store := [(0, some (SB.cells 136 (rdC B s))), (1, none)], nxt := 2, dirty := [0, 1, 2, 3, 4, 5, 6], nt := 16 })) := by kernel_rfl
theorem tkga_r1 (n : Int) (B : List Int) (i m : Nat) (g : Nat → List SV) (s : Rs) (K : Ex → St → Prop) : roundE tkgaE (keepW tkR 1) tkgaF tkP 0 K (tkS (.fn (.func 53) [.agg [.ptr 0 0]] []) n B i (.own 1 0 5 m) (some (.row 67 5 m g)) s) =
  (Br (decide ((↑i : Int) < n)) (rdS (gateR) B s fun (a87 : Int × Int × Int × Int × Bool) (s86 : Rs) => Br (decide ((m + 1) * 40 ≤ 1099511627776) && decide (m + 1 < 9223372036854775808) && decide (m = m)) (K Ex.normal { tmps := [(1, SV.fn (Fn.func 53) [SV.agg [SV.ptr 0 0]] []), (5, SV.own 1 0 5 (m + 1)), (6, SV.int .i64 n), (7, SV.int .i64 (IntKind.i64.wrap ((↑i : Int) + 1)))], store := [(0, some (SB.cells 136 (rdC B s86))), (1, some (SB.row 67 5 (m + 1) (rowPut m [SV.int .i64 a87.fst, SV.int .i64 a87.snd.fst, SV.int .i64 a87.snd.snd.fst, SV.int .i64 a87.snd.snd.snd.fst, SV.bool a87.snd.snd.snd.snd] g)))], nxt := 2, dirty := [0, 1, 2, 3, 4, 5, 6], nt := 16 }) (False)) (K (Ex.exit 0) { tmps := [(1, SV.fn (Fn.func 53) [SV.agg [SV.ptr 0 0]] []), (5, SV.own 1 0 5 m), (6, SV.int .i64 n), (7, SV.int .i64 (↑i : Int))], store := [(0, some (SB.cells 136 (rdC B s))), (1, some (SB.row 67 5 m g))], nxt := 2, dirty := [0, 1, 2, 3, 4, 5, 6], nt := 16 })) := by kernel_rfl
theorem tkga_a0 (n : Int) (B : List Int) (i : Nat) (s : Rs) (K : KC) : afterE tkgaE (keepW tkR 1) tkgaF tkP 1 K (.exit 0) (tkS (.fn (.func 53) [.agg [.ptr 0 0]] []) n B i .nils none s) =
  (K SV.nils [some (SB.cells 136 [SV.ro B.length 1 (bG B), SV.int .i64 s.pos, SV.int .i64 s.last, SV.int .i64 s.err, SV.int .i64 s.place])] [0]) := by kernel_rfl
theorem tkga_a1 (n : Int) (B : List Int) (i m : Nat) (g : Nat → List SV) (s : Rs) (K : KC) : afterE tkgaE (keepW tkR 1) tkgaF tkP 1 K (.exit 0) (tkS (.fn (.func 53) [.agg [.ptr 0 0]] []) n B i (.own 1 0 5 m) (some (.row 67 5 m g)) s) =
  (K (SV.own 1 0 5 m) [some (SB.cells 136 [SV.ro B.length 1 (bG B), SV.int .i64 s.pos, SV.int .i64 s.last, SV.int .i64 s.err, SV.int .i64 s.place]), some (SB.row 67 5 m g)] [0]) := by kernel_rfl
theorem tkfx_law (n : Int) (hn : n ≤ 100000) {B : List Int} {s : Rs} (hs : rdOk B s) (K : KC) (hK : rowsEndS 22 1 oneL (takeR numR n.toNat B s).1 (.cells 136 (rdC B (takeR numR n.toNat B s).2)) K) :
    runL tkR (fun _ => 0) r2 2 44 [.int .i64 n, (.fn (.func 42) [.agg [.ptr 0 0]] [])] (inB B s) K := by
  rw [tkfx_entry]
  refine take_loop (f := oneL) (st := 1) (e := 22) (fun _ => rfl) reads_num hs n.toNat (fun i o b s => tkS (.fn (.func 42) [.agg [.ptr 0 0]] []) n B i o b s) (fun h0 s hs X hX => ?_) (fun i hi hi0 s g hs X hX => ?_) (fun o b ht X => ?_)
  · rw [tkfx_r0]
    refine Br.of (fun _ => rd_step reads_num hs fun a s1 e1 h1 => hX a s1 e1 h1) fun c => absurd (of_decide_eq_false c) (by omega)
  · rw [tkfx_r1, wi64_succ hi (by omega)]
    refine Br.of (fun _ => rd_step reads_num hs fun a s1 e1 h1 => Br.of (fun _ => hX a s1 e1 h1) fun c => ?_) fun c => in_i hi c
    simp at c; omega
  · have hl := takeR_len (rd := numR) B s n.toNat
    refine rows_end ht hK (fun h1 h2 hK => ?_) fun m g h1 h2 hK => ?_
    · subst h1; subst h2
      have hz : n.toNat = 0 := by
        rcases ht with ⟨hL, _⟩ | ⟨_, _, h, _⟩
        · rw [hL] at hl; exact hl.symm
        · cases h
      have e0 : tkS (.fn (.func 42) [.agg [.ptr 0 0]] []) n B n.toNat .nils none (takeR numR n.toNat B s).2 = tkS (.fn (.func 42) [.agg [.ptr 0 0]] []) n B 0 .nils none (takeR numR n.toNat B s).2 := by rw [hz]
      rw [e0, tkfx_r0]
      refine Br.of (fun c => absurd (of_decide_eq_true c) (by omega)) fun _ => ?_
      show afterE tkfxE (keepW tkR 1) tkfxF tkP 1 K (.exit 0) (tkS (.fn (.func 42) [.agg [.ptr 0 0]] []) n B 0 .nils none (takeR numR n.toNat B s).2)
      rw [tkfx_a0]; exact hK
    · subst h1; subst h2
      rw [tkfx_r1]
      refine Br.of (fun c => out_i c) fun _ => ?_
      show afterE tkfxE (keepW tkR 1) tkfxF tkP 1 K (.exit 0) (tkS (.fn (.func 42) [.agg [.ptr 0 0]] []) n B n.toNat (.own 1 0 1 m) (some (.row 22 1 m g)) (takeR numR n.toNat B s).2)
      rw [tkfx_a1]; exact hK
def ctkfx : List SV → List (Option SB) → KC → Prop := cRdP 136 (rowSV 1 oneL 0) (pTake 42 numR)
theorem tkfx_sat (xs : List SV) (σ : List (Option SB)) : Sat Tryz.prog 44 xs σ (ctkfx xs σ) :=
  cRdP_sat (fun xs c rd hp hc B s hs => by
    obtain ⟨n, rfl, rfl, rfl⟩ := pTake_eq hp
    exact callOK_rowsS (idsL_rd B _) (fun _ => rfl) fun K hK => calls_sat (env := tab.env r2 (fun _ => 0) (fun _ => false)) ⟨tab.htt, r2.ok⟩ tab.mixed (fun n => keepW_weaker n tkR) tab.hft 2 _ _ _ K (tkfx_law n hc hs K hK)) xs σ
theorem tkint_law (n : Int) (hn : n ≤ 100000) {B : List Int} {s : Rs} (hs : rdOk B s) (K : KC) (hK : rowsEndS 3 1 oneL (takeR (countR 0 7) n.toNat B s).1 (.cells 136 (rdC B (takeR (countR 0 7) n.toNat B s).2)) K) :
    runL tkR (fun _ => 0) r2 2 45 [.int .i64 n, (.fn (.func 46) [.agg [.ptr 0 0]] [])] (inB B s) K := by
  rw [tkint_entry]
  refine take_loop (f := oneL) (st := 1) (e := 3) (fun _ => rfl) (reads_count 0 7) hs n.toNat (fun i o b s => tkS (.fn (.func 46) [.agg [.ptr 0 0]] []) n B i o b s) (fun h0 s hs X hX => ?_) (fun i hi hi0 s g hs X hX => ?_) (fun o b ht X => ?_)
  · rw [tkint_r0]
    refine Br.of (fun _ => rd_step (reads_count 0 7) hs fun a s1 e1 h1 => hX a s1 e1 h1) fun c => absurd (of_decide_eq_false c) (by omega)
  · rw [tkint_r1, wi64_succ hi (by omega)]
    refine Br.of (fun _ => rd_step (reads_count 0 7) hs fun a s1 e1 h1 => Br.of (fun _ => hX a s1 e1 h1) fun c => ?_) fun c => in_i hi c
    simp at c; omega
  · have hl := takeR_len (rd := (countR 0 7)) B s n.toNat
    refine rows_end ht hK (fun h1 h2 hK => ?_) fun m g h1 h2 hK => ?_
    · subst h1; subst h2
      have hz : n.toNat = 0 := by
        rcases ht with ⟨hL, _⟩ | ⟨_, _, h, _⟩
        · rw [hL] at hl; exact hl.symm
        · cases h
      have e0 : tkS (.fn (.func 46) [.agg [.ptr 0 0]] []) n B n.toNat .nils none (takeR (countR 0 7) n.toNat B s).2 = tkS (.fn (.func 46) [.agg [.ptr 0 0]] []) n B 0 .nils none (takeR (countR 0 7) n.toNat B s).2 := by rw [hz]
      rw [e0, tkint_r0]
      refine Br.of (fun c => absurd (of_decide_eq_true c) (by omega)) fun _ => ?_
      show afterE tkintE (keepW tkR 1) tkintF tkP 1 K (.exit 0) (tkS (.fn (.func 46) [.agg [.ptr 0 0]] []) n B 0 .nils none (takeR (countR 0 7) n.toNat B s).2)
      rw [tkint_a0]; exact hK
    · subst h1; subst h2
      rw [tkint_r1]
      refine Br.of (fun c => out_i c) fun _ => ?_
      show afterE tkintE (keepW tkR 1) tkintF tkP 1 K (.exit 0) (tkS (.fn (.func 46) [.agg [.ptr 0 0]] []) n B n.toNat (.own 1 0 1 m) (some (.row 3 1 m g)) (takeR (countR 0 7) n.toNat B s).2)
      rw [tkint_a1]; exact hK
def ctkint : List SV → List (Option SB) → KC → Prop := cRdP 136 (rowSV 1 oneL 0) (pTake 46 (countR 0 7))
theorem tkint_sat (xs : List SV) (σ : List (Option SB)) : Sat Tryz.prog 45 xs σ (ctkint xs σ) :=
  cRdP_sat (fun xs c rd hp hc B s hs => by
    obtain ⟨n, rfl, rfl, rfl⟩ := pTake_eq hp
    exact callOK_rowsS (idsL_rd B _) (fun _ => rfl) fun K hK => calls_sat (env := tab.env r2 (fun _ => 0) (fun _ => false)) ⟨tab.htt, r2.ok⟩ tab.mixed (fun n => keepW_weaker n tkR) tab.hft 2 _ _ _ K (tkint_law n hc hs K hK)) xs σ
theorem tkki_law (n : Int) (hn : n ≤ 100000) {B : List Int} {s : Rs} (hs : rdOk B s) (K : KC) (hK : rowsEndS 60 3 kiL (takeR kindR n.toNat B s).1 (.cells 136 (rdC B (takeR kindR n.toNat B s).2)) K) :
    runL tkR (fun _ => 0) r2 2 47 [.int .i64 n, (.fn (.func 48) [.agg [.ptr 0 0]] [])] (inB B s) K := by
  rw [tkki_entry]
  refine take_loop (f := kiL) (st := 3) (e := 60) (fun _ => rfl) reads_kind hs n.toNat (fun i o b s => tkS (.fn (.func 48) [.agg [.ptr 0 0]] []) n B i o b s) (fun h0 s hs X hX => ?_) (fun i hi hi0 s g hs X hX => ?_) (fun o b ht X => ?_)
  · rw [tkki_r0]
    refine Br.of (fun _ => rd_step reads_kind hs fun a s1 e1 h1 => hX a s1 e1 h1) fun c => absurd (of_decide_eq_false c) (by omega)
  · rw [tkki_r1, wi64_succ hi (by omega)]
    refine Br.of (fun _ => rd_step reads_kind hs fun a s1 e1 h1 => Br.of (fun _ => hX a s1 e1 h1) fun c => ?_) fun c => in_i hi c
    simp at c; omega
  · have hl := takeR_len (rd := kindR) B s n.toNat
    refine rows_end ht hK (fun h1 h2 hK => ?_) fun m g h1 h2 hK => ?_
    · subst h1; subst h2
      have hz : n.toNat = 0 := by
        rcases ht with ⟨hL, _⟩ | ⟨_, _, h, _⟩
        · rw [hL] at hl; exact hl.symm
        · cases h
      have e0 : tkS (.fn (.func 48) [.agg [.ptr 0 0]] []) n B n.toNat .nils none (takeR kindR n.toNat B s).2 = tkS (.fn (.func 48) [.agg [.ptr 0 0]] []) n B 0 .nils none (takeR kindR n.toNat B s).2 := by rw [hz]
      rw [e0, tkki_r0]
      refine Br.of (fun c => absurd (of_decide_eq_true c) (by omega)) fun _ => ?_
      show afterE tkkiE (keepW tkR 1) tkkiF tkP 1 K (.exit 0) (tkS (.fn (.func 48) [.agg [.ptr 0 0]] []) n B 0 .nils none (takeR kindR n.toNat B s).2)
      rw [tkki_a0]; exact hK
    · subst h1; subst h2
      rw [tkki_r1]
      refine Br.of (fun c => out_i c) fun _ => ?_
      show afterE tkkiE (keepW tkR 1) tkkiF tkP 1 K (.exit 0) (tkS (.fn (.func 48) [.agg [.ptr 0 0]] []) n B n.toNat (.own 1 0 3 m) (some (.row 60 3 m g)) (takeR kindR n.toNat B s).2)
      rw [tkki_a1]; exact hK
def ctkki : List SV → List (Option SB) → KC → Prop := cRdP 136 (rowSV 3 kiL (0, 0, false)) (pTake 48 kindR)
theorem tkki_sat (xs : List SV) (σ : List (Option SB)) : Sat Tryz.prog 47 xs σ (ctkki xs σ) :=
  cRdP_sat (fun xs c rd hp hc B s hs => by
    obtain ⟨n, rfl, rfl, rfl⟩ := pTake_eq hp
    exact callOK_rowsS (idsL_rd B _) (fun _ => rfl) fun K hK => calls_sat (env := tab.env r2 (fun _ => 0) (fun _ => false)) ⟨tab.htt, r2.ok⟩ tab.mixed (fun n => keepW_weaker n tkR) tab.hft 2 _ _ _ K (tkki_law n hc hs K hK)) xs σ
theorem tkpl_law (n : Int) (hn : n ≤ 100000) {B : List Int} {s : Rs} (hs : rdOk B s) (K : KC) (hK : rowsEndS 24 2 plL (takeR placeR n.toNat B s).1 (.cells 136 (rdC B (takeR placeR n.toNat B s).2)) K) :
    runL tkR (fun _ => 0) r2 2 49 [.int .i64 n, (.fn (.func 43) [.agg [.ptr 0 0]] [])] (inB B s) K := by
  rw [tkpl_entry]
  refine take_loop (f := plL) (st := 2) (e := 24) (fun _ => rfl) reads_place hs n.toNat (fun i o b s => tkS (.fn (.func 43) [.agg [.ptr 0 0]] []) n B i o b s) (fun h0 s hs X hX => ?_) (fun i hi hi0 s g hs X hX => ?_) (fun o b ht X => ?_)
  · rw [tkpl_r0]
    refine Br.of (fun _ => rd_step reads_place hs fun a s1 e1 h1 => hX a s1 e1 h1) fun c => absurd (of_decide_eq_false c) (by omega)
  · rw [tkpl_r1, wi64_succ hi (by omega)]
    refine Br.of (fun _ => rd_step reads_place hs fun a s1 e1 h1 => Br.of (fun _ => hX a s1 e1 h1) fun c => ?_) fun c => in_i hi c
    simp at c; omega
  · have hl := takeR_len (rd := placeR) B s n.toNat
    refine rows_end ht hK (fun h1 h2 hK => ?_) fun m g h1 h2 hK => ?_
    · subst h1; subst h2
      have hz : n.toNat = 0 := by
        rcases ht with ⟨hL, _⟩ | ⟨_, _, h, _⟩
        · rw [hL] at hl; exact hl.symm
        · cases h
      have e0 : tkS (.fn (.func 43) [.agg [.ptr 0 0]] []) n B n.toNat .nils none (takeR placeR n.toNat B s).2 = tkS (.fn (.func 43) [.agg [.ptr 0 0]] []) n B 0 .nils none (takeR placeR n.toNat B s).2 := by rw [hz]
      rw [e0, tkpl_r0]
      refine Br.of (fun c => absurd (of_decide_eq_true c) (by omega)) fun _ => ?_
      show afterE tkplE (keepW tkR 1) tkplF tkP 1 K (.exit 0) (tkS (.fn (.func 43) [.agg [.ptr 0 0]] []) n B 0 .nils none (takeR placeR n.toNat B s).2)
      rw [tkpl_a0]; exact hK
    · subst h1; subst h2
      rw [tkpl_r1]
      refine Br.of (fun c => out_i c) fun _ => ?_
      show afterE tkplE (keepW tkR 1) tkplF tkP 1 K (.exit 0) (tkS (.fn (.func 43) [.agg [.ptr 0 0]] []) n B n.toNat (.own 1 0 2 m) (some (.row 24 2 m g)) (takeR placeR n.toNat B s).2)
      rw [tkpl_a1]; exact hK
def ctkpl : List SV → List (Option SB) → KC → Prop := cRdP 136 (rowSV 2 plL (0, 0)) (pTake 43 placeR)
theorem tkpl_sat (xs : List SV) (σ : List (Option SB)) : Sat Tryz.prog 49 xs σ (ctkpl xs σ) :=
  cRdP_sat (fun xs c rd hp hc B s hs => by
    obtain ⟨n, rfl, rfl, rfl⟩ := pTake_eq hp
    exact callOK_rowsS (idsL_rd B _) (fun _ => rfl) fun K hK => calls_sat (env := tab.env r2 (fun _ => 0) (fun _ => false)) ⟨tab.htt, r2.ok⟩ tab.mixed (fun n => keepW_weaker n tkR) tab.hft 2 _ _ _ K (tkpl_law n hc hs K hK)) xs σ
theorem tkga_law (n : Int) (hn : n ≤ 100000) {B : List Int} {s : Rs} (hs : rdOk B s) (K : KC) (hK : rowsEndS 67 5 gaL (takeR gateR n.toNat B s).1 (.cells 136 (rdC B (takeR gateR n.toNat B s).2)) K) :
    runL tkR (fun _ => 0) r2 2 52 [.int .i64 n, (.fn (.func 53) [.agg [.ptr 0 0]] [])] (inB B s) K := by
  rw [tkga_entry]
  refine take_loop (f := gaL) (st := 5) (e := 67) (fun _ => rfl) reads_gate hs n.toNat (fun i o b s => tkS (.fn (.func 53) [.agg [.ptr 0 0]] []) n B i o b s) (fun h0 s hs X hX => ?_) (fun i hi hi0 s g hs X hX => ?_) (fun o b ht X => ?_)
  · rw [tkga_r0]
    refine Br.of (fun _ => rd_step reads_gate hs fun a s1 e1 h1 => hX a s1 e1 h1) fun c => absurd (of_decide_eq_false c) (by omega)
  · rw [tkga_r1, wi64_succ hi (by omega)]
    refine Br.of (fun _ => rd_step reads_gate hs fun a s1 e1 h1 => Br.of (fun _ => hX a s1 e1 h1) fun c => ?_) fun c => in_i hi c
    simp at c; omega
  · have hl := takeR_len (rd := gateR) B s n.toNat
    refine rows_end ht hK (fun h1 h2 hK => ?_) fun m g h1 h2 hK => ?_
    · subst h1; subst h2
      have hz : n.toNat = 0 := by
        rcases ht with ⟨hL, _⟩ | ⟨_, _, h, _⟩
        · rw [hL] at hl; exact hl.symm
        · cases h
      have e0 : tkS (.fn (.func 53) [.agg [.ptr 0 0]] []) n B n.toNat .nils none (takeR gateR n.toNat B s).2 = tkS (.fn (.func 53) [.agg [.ptr 0 0]] []) n B 0 .nils none (takeR gateR n.toNat B s).2 := by rw [hz]
      rw [e0, tkga_r0]
      refine Br.of (fun c => absurd (of_decide_eq_true c) (by omega)) fun _ => ?_
      show afterE tkgaE (keepW tkR 1) tkgaF tkP 1 K (.exit 0) (tkS (.fn (.func 53) [.agg [.ptr 0 0]] []) n B 0 .nils none (takeR gateR n.toNat B s).2)
      rw [tkga_a0]; exact hK
    · subst h1; subst h2
      rw [tkga_r1]
      refine Br.of (fun c => out_i c) fun _ => ?_
      show afterE tkgaE (keepW tkR 1) tkgaF tkP 1 K (.exit 0) (tkS (.fn (.func 53) [.agg [.ptr 0 0]] []) n B n.toNat (.own 1 0 5 m) (some (.row 67 5 m g)) (takeR gateR n.toNat B s).2)
      rw [tkga_a1]; exact hK
def ctkga : List SV → List (Option SB) → KC → Prop := cRdP 136 (rowSV 5 gaL (0, 0, 0, 0, false)) (pTake 53 gateR)
theorem tkga_sat (xs : List SV) (σ : List (Option SB)) : Sat Tryz.prog 52 xs σ (ctkga xs σ) :=
  cRdP_sat (fun xs c rd hp hc B s hs => by
    obtain ⟨n, rfl, rfl, rfl⟩ := pTake_eq hp
    exact callOK_rowsS (idsL_rd B _) (fun _ => rfl) fun K hK => calls_sat (env := tab.env r2 (fun _ => 0) (fun _ => false)) ⟨tab.htt, r2.ok⟩ tab.mixed (fun n => keepW_weaker n tkR) tab.hft 2 _ _ _ K (tkga_law n hc hs K hK)) xs σ
noncomputable def r3 : Know Tryz.prog := (((((r2).add 44 ctkfx tkfx_sat).add 45 ctkint tkint_sat).add 47 ctkki tkki_sat).add 49 ctkpl tkpl_sat).add 52 ctkga tkga_sat
end Go.Proofs.YtbedljhbakdghaaGreatDoor

namespace Go.Proofs.YtbedljhbakdghaaGreatDoor
open Go.Se
set_option maxRecDepth 100000
theorem vrail_nf (B : List Int) (s : Rs) (K : KC) : run r3 3 51 [.agg [.ptr 0 0]] (inB B s) K =
  (rdS (countR 2 64) B s fun (a398 : Int) (s397 : Rs) => (a398 ≤ 100000) ∧ (rdS (takeR placeR a398.toNat) B s397 fun (a392 : List (Int × Int)) (s391 : Rs) => K (SV.ro a392.length 2 (listG plL (0, 0) a392)) [some (SB.cells 136 (rdC B s391))] [0])) := by kernel_rfl
theorem cloneB_nf (n : Nat) (g : Nat → List SV) (K : KC) : run r3 2 75 [.ro n 1 g] [] K =
  (Br (decide (0 < n)) ((∀ (i : Nat), i < n → (g i).length = 1 ∧ (g i).all oneCell = true) ∧ (Br (true && (decide (n * 1 ≤ 1099511627776) && decide (n < 9223372036854775808))) (Br (decide (0 < n)) (K (SV.own 0 0 1 n) [some (SB.row 5 1 n g)] []) (K (SV.arr 0 0 0 0) [some (SB.cells 5 [])] [])) (False))) (False)) := by kernel_rfl
theorem cloneB_0 (K : KC) : run r3 2 75 [.nils] [] K =
  (K SV.nils [] []) := by kernel_rfl
theorem cloneB_1 (K : KC) : run r3 2 75 [.emp] [] K =
  (K (SV.arr 0 0 0 0) [some (SB.cells 5 [])] []) := by kernel_rfl
def cVRail : List SV → List (Option SB) → KC → Prop := cRd 136 (rowSV 2 plL (0, 0)) (pRd railR)
theorem vrail_sat (xs : List SV) (σ : List (Option SB)) : Sat Tryz.prog 51 xs σ (cVRail xs σ) :=
  cRd_sat (fun xs rd hp B s hs => by
    obtain ⟨rfl, rfl⟩ := pRd_eq hp
    exact rd_run (u := 0) (n := 3) (B := r3) rfl fun _ K hK => by
      show run r3 3 _ _ (inB B s) K
      rw [vrail_nf]
      exact rd_step (reads_count 2 64) hs fun a s1 e1 h1 => rd_stepP (reads_take reads_place a.toNat) h1 (by rcases count_range e1 with h | h <;> omega) fun b s2 e2 h2 => hK.of (rd := railR) (manyR_eq e1 e2) (.inl rfl)) xs σ
theorem cloneB_ok (n : Nat) (L : List Int) (hn : n ≤ 1000000) : CallOK Tryz.prog 75 [.ro n 1 (bG L)] [] (.ro n 1 (bG L)) [] [] :=
  callOK_clone (fun _ _ => rfl) (fun h0 => run_ok r3 2 fun _ _ K hK => by
      rw [cloneB_nf]
      exact If.mk (decide_eq_true h0) ⟨fun i _ => ⟨rfl, rfl⟩, If.mk (by simp only [Bool.and_eq_true, decide_eq_true_eq, Bool.true_and]; omega) (Br.of (fun _ => hK) fun c => absurd h0 (of_decide_eq_false c))⟩)
    (run_ok r3 2 fun _ _ K hK => by rw [cloneB_0]; exact hK) (run_ok r3 2 fun _ _ K hK => by rw [cloneB_1]; exact hK)
def cCloneB : List SV → List (Option SB) → KC → Prop
  | [.ro n 1 g], [], K => bytesG n g ∧ n ≤ 1000000 ∧ K (.ro n 1 g) [] []
  | _, _, _ => False
theorem cloneB_sat (xs : List SV) (σ : List (Option SB)) : Sat Tryz.prog 75 xs σ (cCloneB xs σ) := by
  intro K hK
  unfold cCloneB at hK
  split at hK
  · exact ⟨_, _, _, hK.2.2, by rw [hK.1]; exact cloneB_ok _ _ hK.2.1⟩
  · exact hK.elim
noncomputable def r4 : Know Tryz.prog := ((r3).add 51 cVRail vrail_sat).add 75 cCloneB cloneB_sat
end Go.Proofs.YtbedljhbakdghaaGreatDoor

