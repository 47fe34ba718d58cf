import Derived.Test.YtbedljhbakdghaaGreatDoorVi
namespace Go.Proofs.YtbedljhbakdghaaGreatDoor
open Go.Se
set_option maxRecDepth 100000
def xrgR : List (Nat × KeepF) := [(0, ⟨⟨[0, 2, 3, 4], [0, 1, 2, 3], [0, 1, 2, 3, 4, 5, 6, 7, 8, 9, 10, 11, 12], 4, []⟩, [((3, [6]), 3)], []⟩), (2, ⟨⟨[0, 2, 3, 5], [0, 1, 2, 3], [0, 1, 2, 3, 4, 5, 6, 7, 8, 9, 10, 11, 12], 4, []⟩, [((3, [7]), 3)], [⟨3, [], some 6, [.int .i64 0]⟩]⟩), (4, ⟨⟨[0, 2, 3, 6, 7], [0, 1, 2, 3], [0, 1, 2, 3, 4, 5, 6, 7, 8, 9, 10, 11, 12], 4, []⟩, [((3, [8]), 3)], [⟨3, [], some 7, [.int .i64 0]⟩]⟩)]
def xrgC (a1 a2 a3 a4 x y : Int) (h g k : SV) : List SV := [.int .i64 a1, .int .i64 a2, .int .i64 a3, .int .i64 a4, .int .i64 x, .int .i64 y, h, g, k, .nils, .nils, .nils, .int .i64 0, .int .i64 0, .int .u32 0, .int .i64 0]
def xrgS (ts : List (Nat × SV)) (C : List SV) (B : List Int) (b : Option SB) (s : Rs) : St := ⟨(0, .ptr 0 0) :: (2, .ptr 1 0) :: (3, .ptr 2 0) :: ts, [(0, some (.cells 99 (rdC B s))), (1, some (.cells 34 (xrgC 0 0 0 0 0 0 .nils .nils .nils))), (2, some (.cells 34 C)), (3, b)], 4, [0, 1, 2, 3, 4, 5, 6, 7, 8, 9, 10, 11, 12], 105⟩
noncomputable abbrev xrgE : Env := envF xrgR (fun _ => 0) rd 1
noncomputable abbrev xrgF : Func := Tryz.f56
abbrev xrgP0 : List Nat := [1, 1, 1, 1, 1, 1, 1, 1, 0, 1, 0]
abbrev xrgP2 : List Nat := [1, 1, 1, 1, 1, 1, 1, 1, 1, 0, 1, 0]
abbrev xrgP4 : List Nat := [1, 1, 1, 1, 1, 1, 1, 1, 1, 1, 1, 0, 1, 0]
theorem xrg_entry (B : List Int) (s : Rs) (K : KC) : runF xrgR (fun _ => 0) rd 2 56 [.ptr 0 0] (xinB B s) K =
  (rdS (markR markB) B s fun (a398 : Unit) (s397 : Rs) => rdS (countR 60 1024) B s397 fun (a393 : Int) (s392 : Rs) => rdS (numR) B s392 fun (a388 : Int) (s387 : Rs) => rdS (countR 1 64) B s387 fun (a383 : Int) (s382 : Rs) => rdS (countR 1 64) B s382 fun (a378 : Int) (s377 : Rs) => rdS (placeR) B s377 fun (a373 : Int × Int) (s372 : Rs) => ∃ q_, loopE xrgE (keepF xrgR 1) xrgF xrgP0 0 1 K q_ { tmps := [(0, SV.ptr 0 0), (2, SV.ptr 1 0), (3, SV.ptr 2 0), (4, SV.int .i64 0)], store := [(0, some (SB.cells 99 (rdC B s372))), (1, some (SB.cells 34 [SV.int .i64 0, SV.int .i64 0, SV.int .i64 0, SV.int .i64 0, SV.int .i64 0, SV.int .i64 0, SV.nils, SV.nils, SV.nils, SV.nils, SV.nils, SV.nils, SV.int .i64 0, SV.int .i64 0, SV.int .u32 0, SV.int .i64 0])), (2, some (SB.cells 34 [SV.int .i64 a393, SV.int .i64 a388, SV.int .i64 a383, SV.int .i64 a378, SV.int .i64 a373.fst, SV.int .i64 a373.snd, SV.nils, SV.nils, SV.nils, SV.nils, SV.nils, SV.nils, SV.int .i64 0, SV.int .i64 0, SV.int .u32 0, SV.int .i64 0])), (3, none)], nxt := 4, dirty := [0, 1, 2, 3, 4, 5, 6, 7, 8, 9, 10, 11, 12], nt := 105 }) := by kernel_rfl
theorem xrg_r0n (a1 a2 a3 a4 x y : Int) (B : List Int) (s : Rs) (K : Ex → St → Prop) : roundE xrgE (keepF xrgR 1) xrgF xrgP0 0 K (xrgS [(4, .int .i64 0)] (xrgC a1 a2 a3 a4 x y .nils .nils .nils) B none s) =
  (Br (decide (0 < IntKind.i64.wrap (IntKind.i64.wrap (a3 + 1) * IntKind.i64.wrap (a4 + 1)))) (Br (s.err == 0) (rdS (numR) B s fun (a396 : Int) (s395 : Rs) => K Ex.normal { tmps := [(0, SV.ptr 0 0), (2, SV.ptr 1 0), (3, SV.ptr 2 0), (4, SV.int .i64 1)], store := [(0, some (SB.cells 99 (rdC B s395))), (1, some (SB.cells 34 [SV.int .i64 0, SV.int .i64 0, SV.int .i64 0, SV.int .i64 0, SV.int .i64 0, SV.int .i64 0, SV.nils, SV.nils, SV.nils, SV.nils, SV.nils, SV.nils, SV.int .i64 0, SV.int .i64 0, SV.int .u32 0, SV.int .i64 0])), (2, some (SB.cells 34 [SV.int .i64 a1, SV.int .i64 a2, SV.int .i64 a3, SV.int .i64 a4, SV.int .i64 x, SV.int .i64 y, SV.own 3 0 1 1, SV.nils, SV.nils, SV.nils, SV.nils, SV.nils, SV.int .i64 0, SV.int .i64 0, SV.int .u32 0, SV.int .i64 0])), (3, some (SB.row 22 1 1 fun (i : Nat) => cut [SV.int .i64 a396] (i * 1) 1))], nxt := 4, dirty := [0, 1, 2, 3, 4, 5, 6, 7, 8, 9, 10, 11, 12], nt := 105 }) (K (Ex.exit 0) { tmps := [(0, SV.ptr 0 0), (2, SV.ptr 1 0), (3, SV.ptr 2 0), (4, SV.int .i64 0)], store := [(0, some (SB.cells 99 (rdC B s))), (1, some (SB.cells 34 [SV.int .i64 0, SV.int .i64 0, SV.int .i64 0, SV.int .i64 0, SV.int .i64 0, SV.int .i64 0, SV.nils, SV.nils, SV.nils, SV.nils, SV.nils, SV.nils, SV.int .i64 0, SV.int .i64 0, SV.int .u32 0, SV.int .i64 0])), (2, some (SB.cells 34 [SV.int .i64 a1, SV.int .i64 a2, SV.int .i64 a3, SV.int .i64 a4, SV.int .i64 x, SV.int .i64 y, SV.nils, SV.nils, SV.nils, SV.nils, SV.nils, SV.nils, SV.int .i64 0, SV.int .i64 0, SV.int .u32 0, SV.int .i64 0])), (3, none)], nxt := 4, dirty := [0, 1, 2, 3, 4, 5, 6, 7, 8, 9, 10, 11, 12], nt := 105 })) (K (Ex.exit 0) { tmps := [(0, SV.ptr 0 0), (2, SV.ptr 1 0), (3, SV.ptr 2 0), (4, SV.int .i64 0)], store := [(0, some (SB.cells 99 (rdC B s))), (1, some (SB.cells 34 [SV.int .i64 0, SV.int .i64 0, SV.int .i64 0, SV.int .i64 0, SV.int .i64 0, SV.int .i64 0, SV.nils, SV.nils, SV.nils, SV.nils, SV.nils, SV.nils, SV.int .i64 0, SV.int .i64 0, SV.int .u32 0, SV.int .i64 0])), (2, some (SB.cells 34 [SV.int .i64 a1, SV.int .i64 a2, SV.int .i64 a3, SV.int .i64 a4, SV.int .i64 x, SV.int .i64 y, SV.nils, SV.nils, SV.nils, SV.nils, SV.nils, SV.nils, SV.int .i64 0, SV.int .i64 0, SV.int .u32 0, SV.int .i64 0])), (3, none)], nxt := 4, dirty := [0, 1, 2, 3, 4, 5, 6, 7, 8, 9, 10, 11, 12], nt := 105 })) := by kernel_rfl
theorem xrg_r0o (a1 a2 a3 a4 x y : Int) (B : List Int) (i m : Nat) (g : Nat → List SV) (s : Rs) (K : Ex → St → Prop) : roundE xrgE (keepF xrgR 1) xrgF xrgP0 0 K (xrgS [(4, .int .i64 i)] (xrgC a1 a2 a3 a4 x y (.own 3 0 1 m) .nils .nils) B (some (.row 22 1 m g)) s) =
  (Br (decide ((↑i : Int) < IntKind.i64.wrap (IntKind.i64.wrap (a3 + 1) * IntKind.i64.wrap (a4 + 1)))) (Br (s.err == 0) (rdS (numR) B s fun (a396 : Int) (s395 : Rs) => Br (decide ((m + 1) * 8 ≤ 1099511627776) && decide (m + 1 < 9223372036854775808) && decide (m = m)) (K Ex.normal { tmps := [(0, SV.ptr 0 0), (2, SV.ptr 1 0), (3, SV.ptr 2 0), (4, SV.int .i64 (IntKind.i64.wrap ((↑i : Int) + 1)))], store := [(0, some (SB.cells 99 (rdC B s395))), (1, some (SB.cells 34 [SV.int .i64 0, SV.int .i64 0, SV.int .i64 0, SV.int .i64 0, SV.int .i64 0, SV.int .i64 0, SV.nils, SV.nils, SV.nils, SV.nils, SV.nils, SV.nils, SV.int .i64 0, SV.int .i64 0, SV.int .u32 0, SV.int .i64 0])), (2, some (SB.cells 34 [SV.int .i64 a1, SV.int .i64 a2, SV.int .i64 a3, SV.int .i64 a4, SV.int .i64 x, SV.int .i64 y, SV.own 3 0 1 (m + 1), SV.nils, SV.nils, SV.nils, SV.nils, SV.nils, SV.int .i64 0, SV.int .i64 0, SV.int .u32 0, SV.int .i64 0])), (3, some (SB.row 22 1 (m + 1) (rowPut m [SV.int .i64 a396] g)))], nxt := 4, dirty := [0, 1, 2, 3, 4, 5, 6, 7, 8, 9, 10, 11, 12], nt := 105 }) (False)) (K (Ex.exit 0) { tmps := [(0, SV.ptr 0 0), (2, SV.ptr 1 0), (3, SV.ptr 2 0), (4, SV.int .i64 (↑i : Int))], store := [(0, some (SB.cells 99 (rdC B s))), (1, some (SB.cells 34 [SV.int .i64 0, SV.int .i64 0, SV.int .i64 0, SV.int .i64 0, SV.int .i64 0, SV.int .i64 0, SV.nils, SV.nils, SV.nils, SV.nils, SV.nils, SV.nils, SV.int .i64 0, SV.int .i64 0, SV.int .u32 0, SV.int .i64 0])), (2, some (SB.cells 34 [SV.int .i64 a1, SV.int .i64 a2, SV.int .i64 a3, SV.int .i64 a4, SV.int .i64 x, SV.int .i64 y, SV.own 3 0 1 m, SV.nils, SV.nils, SV.nils, SV.nils, SV.nils, SV.int .i64 0, SV.int .i64 0, SV.int .u32 0, SV.int .i64 0])), (3, some (SB.row 22 1 m g))], nxt := 4, dirty := [0, 1, 2, 3, 4, 5, 6, 7, 8, 9, 10, 11, 12], nt := 105 })) (K (Ex.exit 0) { tmps := [(0, SV.ptr 0 0), (2, SV.ptr 1 0), (3, SV.ptr 2 0), (4, SV.int .i64 (↑i : Int))], store := [(0, some (SB.cells 99 (rdC B s))), (1, some (SB.cells 34 [SV.int .i64 0, SV.int .i64 0, SV.int .i64 0, SV.int .i64 0, SV.int .i64 0, SV.int .i64 0, SV.nils, SV.nils, SV.nils, SV.nils, SV.nils, SV.nils, SV.int .i64 0, SV.int .i64 0, SV.int .u32 0, SV.int .i64 0])), (2, some (SB.cells 34 [SV.int .i64 a1, SV.int .i64 a2, SV.int .i64 a3, SV.int .i64 a4, SV.int .i64 x, SV.int .i64 y, SV.own 3 0 1 m, SV.nils, SV.nils, SV.nils, SV.nils, SV.nils, SV.int .i64 0, SV.int .i64 0, SV.int .u32 0, SV.int .i64 0])), (3, some (SB.row 22 1 m g))], nxt := 4, dirty := [0, 1, 2, 3, 4, 5, 6, 7, 8, 9, 10, 11, 12], nt := 105 })) := by kernel_rfl
theorem xrg_a0n (a1 a2 a3 a4 x y : Int) (B : List Int) (i : Nat) (s : Rs) (K : KC) : afterE xrgE (keepF xrgR 1) xrgF xrgP0 1 K (.exit 0) (xrgS [(4, .int .i64 i)] (xrgC a1 a2 a3 a4 x y .nils .nils .nils) B none s) =
  (∃ q_, loopE xrgE (keepF xrgR 1) xrgF xrgP2 2 1 K q_ { tmps := [(0, SV.ptr 0 0), (2, SV.ptr 1 0), (3, SV.ptr 2 0), (5, SV.int .i64 0)], store := [(0, some (SB.cells 99 [SV.ro B.length 1 (bG B), SV.int .i64 s.pos, SV.int .i64 s.last, SV.int .i64 s.err, SV.int .i64 s.place])), (1, some (SB.cells 34 [SV.int .i64 0, SV.int .i64 0, SV.int .i64 0, SV.int .i64 0, SV.int .i64 0, SV.int .i64 0, SV.nils, SV.nils, SV.nils, SV.nils, SV.nils, SV.nils, SV.int .i64 0, SV.int .i64 0, SV.int .u32 0, SV.int .i64 0])), (2, some (SB.cells 34 [SV.int .i64 a1, SV.int .i64 a2, SV.int .i64 a3, SV.int .i64 a4, SV.int .i64 x, SV.int .i64 y, SV.ro 0 1 (fzN [SV.int .i64 0]), SV.nils, SV.nils, SV.nils, SV.nils, SV.nils, SV.int .i64 0, SV.int .i64 0, SV.int .u32 0, SV.int .i64 0])), (3, none)], nxt := 4, dirty := [0, 1, 2, 3, 4, 5, 6, 7, 8, 9, 10, 11, 12], nt := 105 }) := by kernel_rfl
theorem xrg_a0o (a1 a2 a3 a4 x y : Int) (B : List Int) (i m : Nat) (g : Nat → List SV) (s : Rs) (K : KC) : afterE xrgE (keepF xrgR 1) xrgF xrgP0 1 K (.exit 0) (xrgS [(4, .int .i64 i)] (xrgC a1 a2 a3 a4 x y (.own 3 0 1 m) .nils .nils) B (some (.row 22 1 m g)) s) =
  (∃ q_, loopE xrgE (keepF xrgR 1) xrgF xrgP2 2 1 K q_ { tmps := [(0, SV.ptr 0 0), (2, SV.ptr 1 0), (3, SV.ptr 2 0), (5, SV.int .i64 0)], store := [(0, some (SB.cells 99 [SV.ro B.length 1 (bG B), SV.int .i64 s.pos, SV.int .i64 s.last, SV.int .i64 s.err, SV.int .i64 s.place])), (1, some (SB.cells 34 [SV.int .i64 0, SV.int .i64 0, SV.int .i64 0, SV.int .i64 0, SV.int .i64 0, SV.int .i64 0, SV.nils, SV.nils, SV.nils, SV.nils, SV.nils, SV.nils, SV.int .i64 0, SV.int .i64 0, SV.int .u32 0, SV.int .i64 0])), (2, some (SB.cells 34 [SV.int .i64 a1, SV.int .i64 a2, SV.int .i64 a3, SV.int .i64 a4, SV.int .i64 x, SV.int .i64 y, SV.ro m 1 (fzG m m [SV.int .i64 0] g), SV.nils, SV.nils, SV.nils, SV.nils, SV.nils, SV.int .i64 0, SV.int .i64 0, SV.int .u32 0, SV.int .i64 0])), (3, none)], nxt := 4, dirty := [0, 1, 2, 3, 4, 5, 6, 7, 8, 9, 10, 11, 12], nt := 105 }) := by kernel_rfl
theorem xrg_r2n (a1 a2 a3 a4 x y : Int) (nh : Nat) (h : Nat → List SV) (B : List Int) (s : Rs) (K : Ex → St → Prop) : roundE xrgE (keepF xrgR 1) xrgF xrgP2 2 K (xrgS [(5, .int .i64 0)] (xrgC a1 a2 a3 a4 x y (.ro nh 1 h) .nils .nils) B none s) =
  (Br (decide (0 < IntKind.i64.wrap (a3 * a4))) (Br (s.err == 0) (rdS (countR 0 7) B s fun (a396 : Int) (s395 : Rs) => K Ex.normal { tmps := [(0, SV.ptr 0 0), (2, SV.ptr 1 0), (3, SV.ptr 2 0), (5, SV.int .i64 1)], store := [(0, some (SB.cells 99 (rdC B s395))), (1, some (SB.cells 34 [SV.int .i64 0, SV.int .i64 0, SV.int .i64 0, SV.int .i64 0, SV.int .i64 0, SV.int .i64 0, SV.nils, SV.nils, SV.nils, SV.nils, SV.nils, SV.nils, SV.int .i64 0, SV.int .i64 0, SV.int .u32 0, SV.int .i64 0])), (2, some (SB.cells 34 [SV.int .i64 a1, SV.int .i64 a2, SV.int .i64 a3, SV.int .i64 a4, SV.int .i64 x, SV.int .i64 y, SV.ro nh 1 h, SV.own 3 0 1 1, SV.nils, SV.nils, SV.nils, SV.nils, SV.int .i64 0, SV.int .i64 0, SV.int .u32 0, SV.int .i64 0])), (3, some (SB.row 3 1 1 fun (i : Nat) => cut [SV.int .i64 a396] (i * 1) 1))], nxt := 4, dirty := [0, 1, 2, 3, 4, 5, 6, 7, 8, 9, 10, 11, 12], nt := 105 }) (K (Ex.exit 2) { tmps := [(0, SV.ptr 0 0), (2, SV.ptr 1 0), (3, SV.ptr 2 0), (5, SV.int .i64 0)], store := [(0, some (SB.cells 99 (rdC B s))), (1, some (SB.cells 34 [SV.int .i64 0, SV.int .i64 0, SV.int .i64 0, SV.int .i64 0, SV.int .i64 0, SV.int .i64 0, SV.nils, SV.nils, SV.nils, SV.nils, SV.nils, SV.nils, SV.int .i64 0, SV.int .i64 0, SV.int .u32 0, SV.int .i64 0])), (2, some (SB.cells 34 [SV.int .i64 a1, SV.int .i64 a2, SV.int .i64 a3, SV.int .i64 a4, SV.int .i64 x, SV.int .i64 y, SV.ro nh 1 h, SV.nils, SV.nils, SV.nils, SV.nils, SV.nils, SV.int .i64 0, SV.int .i64 0, SV.int .u32 0, SV.int .i64 0])), (3, none)], nxt := 4, dirty := [0, 1, 2, 3, 4, 5, 6, 7, 8, 9, 10, 11, 12], nt := 105 })) (K (Ex.exit 2) { tmps := [(0, SV.ptr 0 0), (2, SV.ptr 1 0), (3, SV.ptr 2 0), (5, SV.int .i64 0)], store := [(0, some (SB.cells 99 (rdC B s))), (1, some (SB.cells 34 [SV.int .i64 0, SV.int .i64 0, SV.int .i64 0, SV.int .i64 0, SV.int .i64 0, SV.int .i64 0, SV.nils, SV.nils, SV.nils, SV.nils, SV.nils, SV.nils, SV.int .i64 0, SV.int .i64 0, SV.int .u32 0, SV.int .i64 0])), (2, some (SB.cells 34 [SV.int .i64 a1, SV.int .i64 a2, SV.int .i64 a3, SV.int .i64 a4, SV.int .i64 x, SV.int .i64 y, SV.ro nh 1 h, SV.nils, SV.nils, SV.nils, SV.nils, SV.nils, SV.int .i64 0, SV.int .i64 0, SV.int .u32 0, SV.int .i64 0])), (3, none)], nxt := 4, dirty := [0, 1, 2, 3, 4, 5, 6, 7, 8, 9, 10, 11, 12], nt := 105 })) := by kernel_rfl
theorem xrg_r2o (a1 a2 a3 a4 x y : Int) (nh : Nat) (h : Nat → List SV) (B : List Int) (i m : Nat) (g : Nat → List SV) (s : Rs) (K : Ex → St → Prop) : roundE xrgE (keepF xrgR 1) xrgF xrgP2 2 K (xrgS [(5, .int .i64 i)] (xrgC a1 a2 a3 a4 x y (.ro nh 1 h) (.own 3 0 1 m) .nils) B (some (.row 3 1 m g)) s) =
  (Br (decide ((↑i : Int) < IntKind.i64.wrap (a3 * a4))) (Br (s.err == 0) (rdS (countR 0 7) B s fun (a396 : Int) (s395 : Rs) => Br (decide ((m + 1) * 8 ≤ 1099511627776) && decide (m + 1 < 9223372036854775808) && decide (m = m)) (K Ex.normal { tmps := [(0, SV.ptr 0 0), (2, SV.ptr 1 0), (3, SV.ptr 2 0), (5, SV.int .i64 (IntKind.i64.wrap ((↑i : Int) + 1)))], store := [(0, some (SB.cells 99 (rdC B s395))), (1, some (SB.cells 34 [SV.int .i64 0, SV.int .i64 0, SV.int .i64 0, SV.int .i64 0, SV.int .i64 0, SV.int .i64 0, SV.nils, SV.nils, SV.nils, SV.nils, SV.nils, SV.nils, SV.int .i64 0, SV.int .i64 0, SV.int .u32 0, SV.int .i64 0])), (2, some (SB.cells 34 [SV.int .i64 a1, SV.int .i64 a2, SV.int .i64 a3, SV.int .i64 a4, SV.int .i64 x, SV.int .i64 y, SV.ro nh 1 h, SV.own 3 0 1 (m + 1), SV.nils, SV.nils, SV.nils, SV.nils, SV.int .i64 0, SV.int .i64 0, SV.int .u32 0, SV.int .i64 0])), (3, some (SB.row 3 1 (m + 1) (rowPut m [SV.int .i64 a396] g)))], nxt := 4, dirty := [0, 1, 2, 3, 4, 5, 6, 7, 8, 9, 10, 11, 12], nt := 105 }) (False)) (K (Ex.exit 2) { tmps := [(0, SV.ptr 0 0), (2, SV.ptr 1 0), (3, SV.ptr 2 0), (5, SV.int .i64 (↑i : Int))], store := [(0, some (SB.cells 99 (rdC B s))), (1, some (SB.cells 34 [SV.int .i64 0, SV.int .i64 0, SV.int .i64 0, SV.int .i64 0, SV.int .i64 0, SV.int .i64 0, SV.nils, SV.nils, SV.nils, SV.nils, SV.nils, SV.nils, SV.int .i64 0, SV.int .i64 0, SV.int .u32 0, SV.int .i64 0])), (2, some (SB.cells 34 [SV.int .i64 a1, SV.int .i64 a2, SV.int .i64 a3, SV.int .i64 a4, SV.int .i64 x, SV.int .i64 y, SV.ro nh 1 h, SV.own 3 0 1 m, SV.nils, SV.nils, SV.nils, SV.nils, SV.int .i64 0, SV.int .i64 0, SV.int .u32 0, SV.int .i64 0])), (3, some (SB.row 3 1 m g))], nxt := 4, dirty := [0, 1, 2, 3, 4, 5, 6, 7, 8, 9, 10, 11, 12], nt := 105 })) (K (Ex.exit 2) { tmps := [(0, SV.ptr 0 0), (2, SV.ptr 1 0), (3, SV.ptr 2 0), (5, SV.int .i64 (↑i : Int))], store := [(0, some (SB.cells 99 (rdC B s))), (1, some (SB.cells 34 [SV.int .i64 0, SV.int .i64 0, SV.int .i64 0, SV.int .i64 0, SV.int .i64 0, SV.int .i64 0, SV.nils, SV.nils, SV.nils, SV.nils, SV.nils, SV.nils, SV.int .i64 0, SV.int .i64 0, SV.int .u32 0, SV.int .i64 0])), (2, some (SB.cells 34 [SV.int .i64 a1, SV.int .i64 a2, SV.int .i64 a3, SV.int .i64 a4, SV.int .i64 x, SV.int .i64 y, SV.ro nh 1 h, SV.own 3 0 1 m, SV.nils, SV.nils, SV.nils, SV.nils, SV.int .i64 0, SV.int .i64 0, SV.int .u32 0, SV.int .i64 0])), (3, some (SB.row 3 1 m g))], nxt := 4, dirty := [0, 1, 2, 3, 4, 5, 6, 7, 8, 9, 10, 11, 12], nt := 105 })) := by kernel_rfl
theorem xrg_a2n (a1 a2 a3 a4 x y : Int) (nh : Nat) (h : Nat → List SV) (B : List Int) (i : Nat) (s : Rs) (K : KC) : afterE xrgE (keepF xrgR 1) xrgF xrgP2 1 K (.exit 2) (xrgS [(5, .int .i64 i)] (xrgC a1 a2 a3 a4 x y (.ro nh 1 h) .nils .nils) B none s) =
  (rdS (countR 1 8) B s fun (a398 : Int) (s397 : Rs) => ∃ q_, loopE xrgE (keepF xrgR 1) xrgF xrgP4 4 1 K q_ { tmps := [(0, SV.ptr 0 0), (2, SV.ptr 1 0), (3, SV.ptr 2 0), (6, SV.int .i64 a398), (7, SV.int .i64 0)], store := [(0, some (SB.cells 99 (rdC B s397))), (1, some (SB.cells 34 [SV.int .i64 0, SV.int .i64 0, SV.int .i64 0, SV.int .i64 0, SV.int .i64 0, SV.int .i64 0, SV.nils, SV.nils, SV.nils, SV.nils, SV.nils, SV.nils, SV.int .i64 0, SV.int .i64 0, SV.int .u32 0, SV.int .i64 0])), (2, some (SB.cells 34 [SV.int .i64 a1, SV.int .i64 a2, SV.int .i64 a3, SV.int .i64 a4, SV.int .i64 x, SV.int .i64 y, SV.ro nh 1 h, SV.ro 0 1 (fzN [SV.int .i64 0]), SV.nils, SV.nils, SV.nils, SV.nils, SV.int .i64 0, SV.int .i64 0, SV.int .u32 0, SV.int .i64 0])), (3, none)], nxt := 4, dirty := [0, 1, 2, 3, 4, 5, 6, 7, 8, 9, 10, 11, 12], nt := 105 }) := by kernel_rfl
theorem xrg_a2o (a1 a2 a3 a4 x y : Int) (nh : Nat) (h : Nat → List SV) (B : List Int) (i m : Nat) (g : Nat → List SV) (s : Rs) (K : KC) : afterE xrgE (keepF xrgR 1) xrgF xrgP2 1 K (.exit 2) (xrgS [(5, .int .i64 i)] (xrgC a1 a2 a3 a4 x y (.ro nh 1 h) (.own 3 0 1 m) .nils) B (some (.row 3 1 m g)) s) =
  (rdS (countR 1 8) B s fun (a398 : Int) (s397 : Rs) => ∃ q_, loopE xrgE (keepF xrgR 1) xrgF xrgP4 4 1 K q_ { tmps := [(0, SV.ptr 0 0), (2, SV.ptr 1 0), (3, SV.ptr 2 0), (6, SV.int .i64 a398), (7, SV.int .i64 0)], store := [(0, some (SB.cells 99 (rdC B s397))), (1, some (SB.cells 34 [SV.int .i64 0, SV.int .i64 0, SV.int .i64 0, SV.int .i64 0, SV.int .i64 0, SV.int .i64 0, SV.nils, SV.nils, SV.nils, SV.nils, SV.nils, SV.nils, SV.int .i64 0, SV.int .i64 0, SV.int .u32 0, SV.int .i64 0])), (2, some (SB.cells 34 [SV.int .i64 a1, SV.int .i64 a2, SV.int .i64 a3, SV.int .i64 a4, SV.int .i64 x, SV.int .i64 y, SV.ro nh 1 h, SV.ro m 1 (fzG m m [SV.int .i64 0] g), SV.nils, SV.nils, SV.nils, SV.nils, SV.int .i64 0, SV.int .i64 0, SV.int .u32 0, SV.int .i64 0])), (3, none)], nxt := 4, dirty := [0, 1, 2, 3, 4, 5, 6, 7, 8, 9, 10, 11, 12], nt := 105 }) := by kernel_rfl
theorem xrg_r4n (a1 a2 a3 a4 x y n : Int) (nh ng : Nat) (h gg : Nat → List SV) (B : List Int) (s : Rs) (K : Ex → St → Prop) : roundE xrgE (keepF xrgR 1) xrgF xrgP4 4 K (xrgS [(6, .int .i64 n), (7, .int .i64 0)] (xrgC a1 a2 a3 a4 x y (.ro nh 1 h) (.ro ng 1 gg) .nils) B none s) =
  (Br (decide (0 < n)) (Br (s.err == 0) (rdS (numR) B s fun (a396 : Int) (s395 : Rs) => rdS (numR) B s395 fun (a391 : Int) (s390 : Rs) => rdS (flagR) B s390 fun (a386 : Bool) (s385 : Rs) => K Ex.normal { tmps := [(0, SV.ptr 0 0), (2, SV.ptr 1 0), (3, SV.ptr 2 0), (6, SV.int .i64 n), (7, SV.int .i64 1)], store := [(0, some (SB.cells 99 (rdC B s385))), (1, some (SB.cells 34 [SV.int .i64 0, SV.int .i64 0, SV.int .i64 0, SV.int .i64 0, SV.int .i64 0, SV.int .i64 0, SV.nils, SV.nils, SV.nils, SV.nils, SV.nils, SV.nils, SV.int .i64 0, SV.int .i64 0, SV.int .u32 0, SV.int .i64 0])), (2, some (SB.cells 34 [SV.int .i64 a1, SV.int .i64 a2, SV.int .i64 a3, SV.int .i64 a4, SV.int .i64 x, SV.int .i64 y, SV.ro nh 1 h, SV.ro ng 1 gg, SV.own 3 0 3 1, SV.nils, SV.nils, SV.nils, SV.int .i64 0, SV.int .i64 0, SV.int .u32 0, SV.int .i64 0])), (3, some (SB.row 60 3 1 fun (i : Nat) => cut [SV.int .i64 a396, SV.int .i64 a391, SV.bool a386] (i * 3) 3))], nxt := 4, dirty := [0, 1, 2, 3, 4, 5, 6, 7, 8, 9, 10, 11, 12], nt := 105 }) (K (Ex.exit 4) { tmps := [(0, SV.ptr 0 0), (2, SV.ptr 1 0), (3, SV.ptr 2 0), (6, SV.int .i64 n), (7, SV.int .i64 0)], store := [(0, some (SB.cells 99 (rdC B s))), (1, some (SB.cells 34 [SV.int .i64 0, SV.int .i64 0, SV.int .i64 0, SV.int .i64 0, SV.int .i64 0, SV.int .i64 0, SV.nils, SV.nils, SV.nils, SV.nils, SV.nils, SV.nils, SV.int .i64 0, SV.int .i64 0, SV.int .u32 0, SV.int .i64 0])), (2, some (SB.cells 34 [SV.int .i64 a1, SV.int .i64 a2, SV.int .i64 a3, SV.int .i64 a4, SV.int .i64 x, SV.int .i64 y, SV.ro nh 1 h, SV.ro ng 1 gg, SV.nils, SV.nils, SV.nils, SV.nils, SV.int .i64 0, SV.int .i64 0, SV.int .u32 0, SV.int .i64 0])), (3, none)], nxt := 4, dirty := [0, 1, 2, 3, 4, 5, 6, 7, 8, 9, 10, 11, 12], nt := 105 })) (K (Ex.exit 4) { tmps := [(0, SV.ptr 0 0), (2, SV.ptr 1 0), (3, SV.ptr 2 0), (6, SV.int .i64 n), (7, SV.int .i64 0)], store := [(0, some (SB.cells 99 (rdC B s))), (1, some (SB.cells 34 [SV.int .i64 0, SV.int .i64 0, SV.int .i64 0, SV.int .i64 0, SV.int .i64 0, SV.int .i64 0, SV.nils, SV.nils, SV.nils, SV.nils, SV.nils, SV.nils, SV.int .i64 0, SV.int .i64 0, SV.int .u32 0, SV.int .i64 0])), (2, some (SB.cells 34 [SV.int .i64 a1, SV.int .i64 a2, SV.int .i64 a3, SV.int .i64 a4, SV.int .i64 x, SV.int .i64 y, SV.ro nh 1 h, SV.ro ng 1 gg, SV.nils, SV.nils, SV.nils, SV.nils, SV.int .i64 0, SV.int .i64 0, SV.int .u32 0, SV.int .i64 0])), (3, none)], nxt := 4, dirty := [0, 1, 2, 3, 4, 5, 6, 7, 8, 9, 10, 11, 12], nt := 105 })) := by kernel_rfl
theorem xrg_r4o (a1 a2 a3 a4 x y n : Int) (nh ng : Nat) (h gg : Nat → List SV) (B : List Int) (i m : Nat) (g : Nat → List SV) (s : Rs) (K : Ex → St → Prop) : roundE xrgE (keepF xrgR 1) xrgF xrgP4 4 K (xrgS [(6, .int .i64 n), (7, .int .i64 i)] (xrgC a1 a2 a3 a4 x y (.ro nh 1 h) (.ro ng 1 gg) (.own 3 0 3 m)) B (some (.row 60 3 m g)) s) =
  (Br (decide ((↑i : Int) < n)) (Br (s.err == 0) (rdS (numR) B s fun (a396 : Int) (s395 : Rs) => rdS (numR) B s395 fun (a391 : Int) (s390 : Rs) => rdS (flagR) B s390 fun (a386 : Bool) (s385 : Rs) => Br (decide ((m + 1) * 24 ≤ 1099511627776) && decide (m + 1 < 9223372036854775808) && decide (m = m)) (K Ex.normal { tmps := [(0, SV.ptr 0 0), (2, SV.ptr 1 0), (3, SV.ptr 2 0), (6, SV.int .i64 n), (7, SV.int .i64 (IntKind.i64.wrap ((↑i : Int) + 1)))], store := [(0, some (SB.cells 99 (rdC B s385))), (1, some (SB.cells 34 [SV.int .i64 0, SV.int .i64 0, SV.int .i64 0, SV.int .i64 0, SV.int .i64 0, SV.int .i64 0, SV.nils, SV.nils, SV.nils, SV.nils, SV.nils, SV.nils, SV.int .i64 0, SV.int .i64 0, SV.int .u32 0, SV.int .i64 0])), (2, some (SB.cells 34 [SV.int .i64 a1, SV.int .i64 a2, SV.int .i64 a3, SV.int .i64 a4, SV.int .i64 x, SV.int .i64 y, SV.ro nh 1 h, SV.ro ng 1 gg, SV.own 3 0 3 (m + 1), SV.nils, SV.nils, SV.nils, SV.int .i64 0, SV.int .i64 0, SV.int .u32 0, SV.int .i64 0])), (3, some (SB.row 60 3 (m + 1) (rowPut m [SV.int .i64 a396, SV.int .i64 a391, SV.bool a386] g)))], nxt := 4, dirty := [0, 1, 2, 3, 4, 5, 6, 7, 8, 9, 10, 11, 12], nt := 105 }) (False)) (K (Ex.exit 4) { tmps := [(0, SV.ptr 0 0), (2, SV.ptr 1 0), (3, SV.ptr 2 0), (6, SV.int .i64 n), (7, SV.int .i64 (↑i : Int))], store := [(0, some (SB.cells 99 (rdC B s))), (1, some (SB.cells 34 [SV.int .i64 0, SV.int .i64 0, SV.int .i64 0, SV.int .i64 0, SV.int .i64 0, SV.int .i64 0, SV.nils, SV.nils, SV.nils, SV.nils, SV.nils, SV.nils, SV.int .i64 0, SV.int .i64 0, SV.int .u32 0, SV.int .i64 0])), (2, some (SB.cells 34 [SV.int .i64 a1, SV.int .i64 a2, SV.int .i64 a3, SV.int .i64 a4, SV.int .i64 x, SV.int .i64 y, SV.ro nh 1 h, SV.ro ng 1 gg, SV.own 3 0 3 m, SV.nils, SV.nils, SV.nils, SV.int .i64 0, SV.int .i64 0, SV.int .u32 0, SV.int .i64 0])), (3, some (SB.row 60 3 m g))], nxt := 4, dirty := [0, 1, 2, 3, 4, 5, 6, 7, 8, 9, 10, 11, 12], nt := 105 })) (K (Ex.exit 4) { tmps := [(0, SV.ptr 0 0), (2, SV.ptr 1 0), (3, SV.ptr 2 0), (6, SV.int .i64 n), (7, SV.int .i64 (↑i : Int))], store := [(0, some (SB.cells 99 (rdC B s))), (1, some (SB.cells 34 [SV.int .i64 0, SV.int .i64 0, SV.int .i64 0, SV.int .i64 0, SV.int .i64 0, SV.int .i64 0, SV.nils, SV.nils, SV.nils, SV.nils, SV.nils, SV.nils, SV.int .i64 0, SV.int .i64 0, SV.int .u32 0, SV.int .i64 0])), (2, some (SB.cells 34 [SV.int .i64 a1, SV.int .i64 a2, SV.int .i64 a3, SV.int .i64 a4, SV.int .i64 x, SV.int .i64 y, SV.ro nh 1 h, SV.ro ng 1 gg, SV.own 3 0 3 m, SV.nils, SV.nils, SV.nils, SV.int .i64 0, SV.int .i64 0, SV.int .u32 0, SV.int .i64 0])), (3, some (SB.row 60 3 m g))], nxt := 4, dirty := [0, 1, 2, 3, 4, 5, 6, 7, 8, 9, 10, 11, 12], nt := 105 })) := by kernel_rfl
theorem xrg_a4n (a1 a2 a3 a4 x y n : Int) (nh ng : Nat) (h gg : Nat → List SV) (B : List Int) (i : Nat) (s : Rs) (K : KC) : afterE xrgE (keepF xrgR 1) xrgF xrgP4 1 K (.exit 4) (xrgS [(6, .int .i64 n), (7, .int .i64 i)] (xrgC a1 a2 a3 a4 x y (.ro nh 1 h) (.ro ng 1 gg) .nils) B none s) =
  (K (SV.agg [SV.int .i64 a1, SV.int .i64 a2, SV.int .i64 a3, SV.int .i64 a4, SV.int .i64 x, SV.int .i64 y, SV.ro nh 1 h, SV.ro ng 1 gg, SV.nils, SV.nils, SV.nils, SV.nils, SV.int .i64 0, SV.int .i64 0, SV.int .u32 0, SV.int .i64 0]) [some (SB.cells 99 [SV.ro B.length 1 (bG B), SV.int .i64 s.pos, SV.int .i64 s.last, SV.int .i64 s.err, SV.int .i64 s.place])] [0]) := by kernel_rfl
theorem xrg_a4o (a1 a2 a3 a4 x y n : Int) (nh ng : Nat) (h gg : Nat → List SV) (B : List Int) (i m : Nat) (g : Nat → List SV) (s : Rs) (K : KC) : afterE xrgE (keepF xrgR 1) xrgF xrgP4 1 K (.exit 4) (xrgS [(6, .int .i64 n), (7, .int .i64 i)] (xrgC a1 a2 a3 a4 x y (.ro nh 1 h) (.ro ng 1 gg) (.own 3 0 3 m)) B (some (.row 60 3 m g)) s) =
  (K (SV.agg [SV.int .i64 a1, SV.int .i64 a2, SV.int .i64 a3, SV.int .i64 a4, SV.int .i64 x, SV.int .i64 y, SV.ro nh 1 h, SV.ro ng 1 gg, SV.own 1 0 3 m, SV.nils, SV.nils, SV.nils, SV.int .i64 0, SV.int .i64 0, SV.int .u32 0, SV.int .i64 0]) [some (SB.cells 99 [SV.ro B.length 1 (bG B), SV.int .i64 s.pos, SV.int .i64 s.last, SV.int .i64 s.err, SV.int .i64 s.place]), some (SB.row 60 3 m g)] [0]) := by kernel_rfl
def gEnd (v : SV → SV) {α : Type} (e st : Nat) (f : α → List SV) (L : List α) (b : SB) (K : KC) : Prop :=
  (L = [] → K (v .nils) [some b] [0]) ∧ ∀ g, L ≠ [] → (∀ j (h : j < L.length), g j = f L[j]) → K (v (.own 1 0 st L.length)) [some b, some (.row e st L.length g)] [0]
theorem xrg_g4 {a1 a2 a3 a4 x y n : Int} {nh ng : Nat} {h gg : Nat → List SV} {B : List Int} {s0 : Rs} (hn : n ≤ 100000) (h0 : rdOk B s0) (K : KC) (hK : ∀ L s, takeX kindR n.toNat B s0 = (L, s) → gEnd (fun k => .agg (xrgC a1 a2 a3 a4 x y (.ro nh 1 h) (.ro ng 1 gg) k)) 60 3 kiL L (.cells 99 (rdC B s)) K) :
    ∃ q, loopE xrgE (keepF xrgR 1) xrgF xrgP4 4 1 K q (xrgS [(6, .int .i64 n), (7, .int .i64 0)] (xrgC a1 a2 a3 a4 x y (.ro nh 1 h) (.ro ng 1 gg) .nils) B none s0) := by
  refine takeX_loop (f := kiL) (st := 3) (e := 60) (id := 3) (fun _ => rfl) reads_kind h0 (n).toNat (fun i o b s => xrgS [(6, .int .i64 n), (7, .int .i64 i)] (xrgC a1 a2 a3 a4 x y (.ro nh 1 h) (.ro ng 1 gg) o) B b s) (fun h0 s hs he X hX => ?_) (fun i hi hi0 s g hs he X hX => ?_) (fun i o b L s hend hi hlen ht hs hgo X => ?_)
  · refine Eq.mpr (xrg_r4n ..) ?_
    refine Br.of (fun _ => Br.of (fun _ => rd_step reads_num hs fun a s1 e1 h1 => rd_step reads_num h1 fun b s2 e2 h2 => rd_step reads_flag h2 fun c s3 e3 h3 => hX (a, b, c) s3 (thenR_eq e1 (thenR_eq e2 e3)) h3) fun c => absurd he (ne_of_beq_false c)) fun c => ?_
    have c : ¬ (0 : Int) < n := of_decide_eq_false c
    omega
  · rw [xrg_r4o, wi64_succ hi (by omega)]
    refine Br.of (fun _ => Br.of (fun _ => rd_step reads_num hs fun a s1 e1 h1 => rd_step reads_num h1 fun b s2 e2 h2 => rd_step reads_flag h2 fun c s3 e3 h3 => Br.of (fun _ => hX (a, b, c) s3 (thenR_eq e1 (thenR_eq e2 e3)) h3) fun c => ?_) fun c => absurd he (ne_of_beq_false c)) fun c => ?_
    · simp at c; omega
    · have c : ¬ ((i : Nat) : Int) < n := of_decide_eq_false c
      omega
  · rcases ht with ⟨hL, h1, h2⟩ | ⟨g, hne, h1, h2, hg⟩
    · subst hL; subst h1; subst h2
      obtain rfl : i = 0 := hlen.symm
      have hx : afterE xrgE (keepF xrgR 1) xrgF xrgP4 1 K (.exit 4) (xrgS [(6, .int .i64 n), (7, .int .i64 (0 : Nat))] (xrgC a1 a2 a3 a4 x y (.ro nh 1 h) (.ro ng 1 gg) .nils) B none s) := by
        refine Eq.mpr (xrg_a4n ..) ?_; exact (hK _ _ hgo).1 rfl
      refine Eq.mpr (xrg_r4n ..) ?_
      refine Br.of (fun c => Br.of (fun c2 => ?_) fun _ => hx) fun _ => hx
      have c : (0 : Int) < n := of_decide_eq_true c
      rcases hend with h | h
      · omega
      · exact absurd (eq_of_beq c2) h
    · subst h1; subst h2
      have hx : afterE xrgE (keepF xrgR 1) xrgF xrgP4 1 K (.exit 4) (xrgS [(6, .int .i64 n), (7, .int .i64 i)] (xrgC a1 a2 a3 a4 x y (.ro nh 1 h) (.ro ng 1 gg) (.own 3 0 3 L.length)) B (some (.row 60 3 L.length g)) s) := by
        rw [xrg_a4o]; exact (hK _ _ hgo).2 g hne hg
      rw [xrg_r4o]
      refine Br.of (fun c => Br.of (fun c2 => ?_) fun _ => hx) fun _ => hx
      have c : ((i : Nat) : Int) < n := of_decide_eq_true c
      rcases hend with h | h
      · omega
      · exact absurd (eq_of_beq c2) h
theorem xrg_g2 {a1 a2 a3 a4 x y : Int} {nh : Nat} {h : Nat → List SV} {B : List Int} {s0 : Rs} (hn : nGs a3 a4 ≤ 100000) (h0 : rdOk B s0) (K : KC) (hK : ∀ L s, takeX (countR 0 7) (nGs a3 a4).toNat B s0 = (L, s) → rdOk B s → ∀ L2 s2, manyX 1 8 kindR B s = (L2, s2) → gEnd (fun k => .agg (xrgC a1 a2 a3 a4 x y (.ro nh 1 h) (rowSV 1 oneL 0 L) k)) 60 3 kiL L2 (.cells 99 (rdC B s2)) K) :
    ∃ q, loopE xrgE (keepF xrgR 1) xrgF xrgP2 2 1 K q (xrgS [(5, .int .i64 0)] (xrgC a1 a2 a3 a4 x y (.ro nh 1 h) .nils .nils) B none s0) := by
  refine takeX_loop (f := oneL) (st := 1) (e := 3) (id := 3) (fun _ => rfl) (reads_count 0 7) h0 (nGs a3 a4).toNat (fun i o b s => xrgS [(5, .int .i64 i)] (xrgC a1 a2 a3 a4 x y (.ro nh 1 h) o .nils) B b s) (fun h0 s hs he X hX => ?_) (fun i hi hi0 s g hs he X hX => ?_) (fun i o b L s hend hi hlen ht hs hgo X => ?_)
  · refine Eq.mpr (xrg_r2n ..) ?_
    refine Br.of (fun _ => Br.of (fun _ => rd_step (reads_count 0 7) hs fun a s1 e1 h1 => hX a s1 e1 h1) fun c => absurd he (ne_of_beq_false c)) fun c => ?_
    have c : ¬ (0 : Int) < nGs a3 a4 := of_decide_eq_false c
    omega
  · rw [xrg_r2o, wi64_succ hi (by omega)]
    refine Br.of (fun _ => Br.of (fun _ => rd_step (reads_count 0 7) hs fun a s1 e1 h1 => Br.of (fun _ => hX a s1 e1 h1) fun c => ?_) fun c => absurd he (ne_of_beq_false c)) fun c => ?_
    · simp at c; omega
    · have c : ¬ ((i : Nat) : Int) < nGs a3 a4 := of_decide_eq_false c
      omega
  · rcases ht with ⟨hL, h1, h2⟩ | ⟨g, hne, h1, h2, hg⟩
    · subst hL; subst h1; subst h2
      obtain rfl : i = 0 := hlen.symm
      have hx : afterE xrgE (keepF xrgR 1) xrgF xrgP2 1 K (.exit 2) (xrgS [(5, .int .i64 (0 : Nat))] (xrgC a1 a2 a3 a4 x y (.ro nh 1 h) .nils .nils) B none s) := by
        refine Eq.mpr (xrg_a2n ..) ?_
        refine rd_step (reads_count 1 8) hs fun n s1 e1 h1 => ?_
        have := xrg_g4 (a1 := a1) (a2 := a2) (a3 := a3) (a4 := a4) (x := x) (y := y) (nh := nh) (h := h) (ng := ([] : List Int).length) (gg := listG oneL 0 ([] : List Int)) (by rcases count_range e1 with h | h <;> omega) h1 K fun L2 s2 e2 => hK _ _ hgo hs L2 s2 (thenR_eq e1 e2)
        exact this
      refine Eq.mpr (xrg_r2n ..) ?_
      refine Br.of (fun c => Br.of (fun c2 => ?_) fun _ => hx) fun _ => hx
      have c : (0 : Int) < nGs a3 a4 := of_decide_eq_true c
      rcases hend with h | h
      · omega
      · exact absurd (eq_of_beq c2) h
    · subst h1; subst h2
      have hx : afterE xrgE (keepF xrgR 1) xrgF xrgP2 1 K (.exit 2) (xrgS [(5, .int .i64 i)] (xrgC a1 a2 a3 a4 x y (.ro nh 1 h) (.own 3 0 1 L.length) .nils) B (some (.row 3 1 L.length g)) s) := by
        refine Eq.mpr (xrg_a2o ..) ?_
        refine rd_step (reads_count 1 8) hs fun n s1 e1 h1 => ?_
        have := xrg_g4 (a1 := a1) (a2 := a2) (a3 := a3) (a4 := a4) (x := x) (y := y) (nh := nh) (h := h) (ng := L.length) (gg := listG oneL 0 L) (by rcases count_range e1 with h | h <;> omega) h1 K fun L2 s2 e2 => hK _ _ hgo hs L2 s2 (thenR_eq e1 e2)
        rw [← fz_listG (d := 0) hg] at this
        exact this
      rw [xrg_r2o]
      refine Br.of (fun c => Br.of (fun c2 => ?_) fun _ => hx) fun _ => hx
      have c : ((i : Nat) : Int) < nGs a3 a4 := of_decide_eq_true c
      rcases hend with h | h
      · omega
      · exact absurd (eq_of_beq c2) h
theorem xrg_g0 {a1 a2 a3 a4 x y : Int} {B : List Int} {s0 : Rs} (hn : nHs a3 a4 ≤ 100000) (hn2 : nGs a3 a4 ≤ 100000) (h0 : rdOk B s0) (K : KC) (hK : ∀ L s, takeX numR (nHs a3 a4).toNat B s0 = (L, s) → ∀ L1 s1, takeX (countR 0 7) (nGs a3 a4).toNat B s = (L1, s1) → rdOk B s1 → ∀ L2 s2, manyX 1 8 kindR B s1 = (L2, s2) → gEnd (fun k => .agg (xrgC a1 a2 a3 a4 x y (rowSV 1 oneL 0 L) (rowSV 1 oneL 0 L1) k)) 60 3 kiL L2 (.cells 99 (rdC B s2)) K) :
    ∃ q, loopE xrgE (keepF xrgR 1) xrgF xrgP0 0 1 K q (xrgS [(4, .int .i64 0)] (xrgC a1 a2 a3 a4 x y .nils .nils .nils) B none s0) := by
  refine takeX_loop (f := oneL) (st := 1) (e := 22) (id := 3) (fun _ => rfl) reads_num h0 (nHs a3 a4).toNat (fun i o b s => xrgS [(4, .int .i64 i)] (xrgC a1 a2 a3 a4 x y o .nils .nils) B b s) (fun h0 s hs he X hX => ?_) (fun i hi hi0 s g hs he X hX => ?_) (fun i o b L s hend hi hlen ht hs hgo X => ?_)
  · refine Eq.mpr (xrg_r0n ..) ?_
    refine Br.of (fun _ => Br.of (fun _ => rd_step reads_num hs fun a s1 e1 h1 => hX a s1 e1 h1) fun c => absurd he (ne_of_beq_false c)) fun c => ?_
    have c : ¬ (0 : Int) < nHs a3 a4 := of_decide_eq_false c
    omega
  · rw [xrg_r0o, wi64_succ hi (by omega)]
    refine Br.of (fun _ => Br.of (fun _ => rd_step reads_num hs fun a s1 e1 h1 => Br.of (fun _ => hX a s1 e1 h1) fun c => ?_) fun c => absurd he (ne_of_beq_false c)) fun c => ?_
    · simp at c; omega
    · have c : ¬ ((i : Nat) : Int) < nHs a3 a4 := of_decide_eq_false c
      omega
  · rcases ht with ⟨hL, h1, h2⟩ | ⟨g, hne, h1, h2, hg⟩
    · subst hL; subst h1; subst h2
      obtain rfl : i = 0 := hlen.symm
      have hx : afterE xrgE (keepF xrgR 1) xrgF xrgP0 1 K (.exit 0) (xrgS [(4, .int .i64 (0 : Nat))] (xrgC a1 a2 a3 a4 x y .nils .nils .nils) B none s) := by
        refine Eq.mpr (xrg_a0n ..) ?_
        have := xrg_g2 (a1 := a1) (a2 := a2) (a3 := a3) (a4 := a4) (x := x) (y := y) (nh := ([] : List Int).length) (h := listG oneL 0 ([] : List Int)) hn2 hs K fun L1 s1 e1 h1 L2 s2 e2 => hK _ _ hgo L1 s1 e1 h1 L2 s2 e2
        exact this
      refine Eq.mpr (xrg_r0n ..) ?_
      refine Br.of (fun c => Br.of (fun c2 => ?_) fun _ => hx) fun _ => hx
      have c : (0 : Int) < nHs a3 a4 := of_decide_eq_true c
      rcases hend with h | h
      · omega
      · exact absurd (eq_of_beq c2) h
    · subst h1; subst h2
      have hx : afterE xrgE (keepF xrgR 1) xrgF xrgP0 1 K (.exit 0) (xrgS [(4, .int .i64 i)] (xrgC a1 a2 a3 a4 x y (.own 3 0 1 L.length) .nils .nils) B (some (.row 22 1 L.length g)) s) := by
        refine Eq.mpr (xrg_a0o ..) ?_
        have := xrg_g2 (a1 := a1) (a2 := a2) (a3 := a3) (a4 := a4) (x := x) (y := y) (nh := L.length) (h := listG oneL 0 L) hn2 hs K fun L1 s1 e1 h1 L2 s2 e2 => hK _ _ hgo L1 s1 e1 h1 L2 s2 e2
        rw [← fz_listG (d := 0) hg] at this
        exact this
      rw [xrg_r0o]
      refine Br.of (fun c => Br.of (fun c2 => ?_) fun _ => hx) fun _ => hx
      have c : ((i : Nat) : Int) < nHs a3 a4 := of_decide_eq_true c
      rcases hend with h | h
      · omega
      · exact absurd (eq_of_beq c2) h
theorem xrg_law {B : List Int} {s : Rs} (hs : rdOk B s) (K : KC) (hK : ∀ u a1 a2 a3 a4 a5 a6 a7 a8 s8, gndX B s = ((u, a1, a2, a3, a4, a5, a6, a7, a8), s8) → gEnd (fun k => .agg (xrgC a1 a2 a3 a4 a5.1 a5.2 (rowSV 1 oneL 0 a6) (rowSV 1 oneL 0 a7) k)) 60 3 kiL a8 (.cells 99 (rdC B s8)) K) :
    runF xrgR (fun _ => 0) rd 2 56 [.ptr 0 0] (xinB B s) K := by
  rw [xrg_entry]
  refine rd_step (reads_mark markB) hs fun u s0 e0 h0 => ?_
  refine rd_step (reads_count 60 1024) h0 fun a1 s1 e1 h1 => ?_
  refine rd_step reads_num h1 fun a2 s2 e2 h2 => ?_
  refine rd_step (reads_count 1 64) h2 fun a3 s3 e3 h3 => ?_
  refine rd_step (reads_count 1 64) h3 fun a4 s4 e4 h4 => ?_
  refine rd_step reads_place h4 fun a5 s5 e5 h5 => ?_
  exact xrg_g0 (nHs_le e3 e4) (nGs_le e3 e4) h5 K fun a6 s6 e6 a7 s7 e7 _ a8 s8 e8 => hK u a1 a2 a3 a4 a5 a6 a7 a8 s8 (gndX_eq e0 e1 e2 e3 e4 e5 e6 e7 e8)
def gSV (x : GX) : SV := .agg (xrgC x.2.1 x.2.2.1 x.2.2.2.1 x.2.2.2.2.1 x.2.2.2.2.2.1.1 x.2.2.2.2.2.1.2 (rowSV 1 oneL 0 x.2.2.2.2.2.2.1) (rowSV 1 oneL 0 x.2.2.2.2.2.2.2.1) (rowSV 3 kiL (0, 0, false) x.2.2.2.2.2.2.2.2))
theorem xrgC_rel {a1 a2 a3 a4 x y : Int} {h g k k' : SV} {ρ : Names} {T : Nat → Prop} {w : World} (hk : ∀ v, rel ρ T w k v → rel ρ T w k' v) {v : Value} (hv : rel ρ T w (.agg (xrgC a1 a2 a3 a4 x y h g k)) v) : rel ρ T w (.agg (xrgC a1 a2 a3 a4 x y h g k')) v := by
  obtain ⟨a, rfl, v1, l1, e1, q1, v2, l2, e2, q2, v3, l3, e3, q3, v4, l4, e4, q4, v5, l5, e5, q5, v6, l6, e6, q6, v7, l7, e7, q7, v8, l8, e8, q8, v9, l9, e9, q9, q10⟩ := hv
  exact ⟨a, rfl, v1, l1, e1, q1, v2, l2, e2, q2, v3, l3, e3, q3, v4, l4, e4, q4, v5, l5, e5, q5, v6, l6, e6, q6, v7, l7, e7, q7, v8, l8, e8, q8, v9, l9, e9, hk _ q9, q10⟩
theorem xrg_ok {B : List Int} {s : Rs} (hs : rdOk B s) : CallOK Tryz.prog 56 [.ptr 0 0] (xinB B s) (gSV (gndX B s).1) [some (.cells 99 (rdC B (gndX B s).2))] [0] := by
  generalize hx : gndX B s = x
  obtain ⟨⟨u, a1, a2, a3, a4, ⟨x, y⟩, a6, a7, a8⟩, s8⟩ := x
  obtain ⟨v, σ', d, hv, hc⟩ := calls_sat (env := tab.env rd (fun _ => 0) (fun _ => false)) ⟨tab.htt, rd.ok⟩ tab.mixed (fun n => keepF_weaker n xrgR) tab.hft 2 _ _ _
    (fun v σ' d => (a8 = [] ∧ v = .agg (xrgC a1 a2 a3 a4 x y (rowSV 1 oneL 0 a6) (rowSV 1 oneL 0 a7) .nils) ∧ σ' = [some (.cells 99 (rdC B s8))] ∧ d = [0]) ∨
      ∃ g, (∀ j (h : j < a8.length), g j = kiL a8[j]) ∧ v = .agg (xrgC a1 a2 a3 a4 x y (rowSV 1 oneL 0 a6) (rowSV 1 oneL 0 a7) (.own 1 0 3 a8.length)) ∧ σ' = [some (.cells 99 (rdC B s8)), some (.row 60 3 a8.length g)] ∧ d = [0])
    (xrg_law hs _ fun u' b1 b2 b3 b4 b5 b6 b7 b8 s' e => by
      rw [hx] at e
      cases e
      exact ⟨fun h => .inl ⟨h, rfl, rfl, rfl⟩, fun g _ hg => .inr ⟨g, hg, rfl, rfl, rfl⟩⟩)
  rcases hv with ⟨rfl, rfl, rfl, rfl⟩ | ⟨g, hg, rfl, rfl, rfl⟩
  · exact callOK_val (fun ρ T w z hz => xrgC_rel (fun v hv => nils_ro hv) hz) hc
  · refine callOK_val (fun ρ T w z hz => ?_) (callOK_frzAllS 2 (idsL_rd B _) (σ' := [some (.row 60 3 a8.length g)]) (fun p hp => by
      match p, hp with
      | 0, hp => cases hp) hc)
    have hb : Nat.ble a8.length a8.length = true := by simp
    have hz : rel ρ T w (.agg (xrgC a1 a2 a3 a4 x y (rowSV 1 oneL 0 a6) (rowSV 1 oneL 0 a7) (bif Nat.ble a8.length a8.length then .ro a8.length 3 g else .junk))) z := hz
    rw [hb] at hz
    exact xrgC_rel (fun v hv => ro_eq rfl (fun i hi => by rw [hg i hi, listG_at hi]) hv) hz
def cXRg : List SV → List (Option SB) → KC → Prop := cRd 99 gSV (pNum gndX)
theorem xrg_sat (xs : List SV) (σ : List (Option SB)) : Sat Tryz.prog 56 xs σ (cXRg xs σ) :=
  cRd_sat (fun xs rd hp B s hs => by
    obtain ⟨rfl, rfl⟩ := pNum_eq hp
    exact xrg_ok hs) xs σ
noncomputable def re : Know Tryz.prog := (rd).add 56 cXRg xrg_sat
end Go.Proofs.YtbedljhbakdghaaGreatDoor

namespace Go.Proofs.YtbedljhbakdghaaGreatDoor
open Go.Se
set_option maxRecDepth 100000
def xdcR : List (Nat × KeepF) := [(0, ⟨⟨[0, 2, 5, 6, 7, 8], [0, 1, 2, 3], [0, 1, 2, 3, 4, 5, 6, 7, 8, 9, 10, 11, 12], 4, []⟩, [((6, [10]), 3)], []⟩), (2, ⟨⟨[0, 2, 5, 6, 7, 9], [0, 1, 2, 3], [0, 1, 2, 3, 4, 5, 6, 7, 8, 9, 10, 11, 12], 4, []⟩, [((6, [11]), 3)], [⟨6, [], some 10, raL []⟩]⟩), (2000016, ⟨⟨[0, 2, 5, 6], [0, 1, 2], [0, 1, 2, 3, 4, 5, 6, 7, 8, 9, 10, 11, 12], 4, []⟩, [], [⟨6, [], some 11, gaL (0, 0, 0, 0, false)⟩]⟩)]
def xdcCut : Nat → Bool := fun i => Nat.beq i 16
def xdcC (x : GX) (l : List (Int × Int)) (r g : SV) : List SV := [.int .i64 x.2.1, .int .i64 x.2.2.1, .int .i64 x.2.2.2.1, .int .i64 x.2.2.2.2.1, .int .i64 x.2.2.2.2.2.1.1, .int .i64 x.2.2.2.2.2.1.2, rowSV 1 oneL 0 x.2.2.2.2.2.2.1, rowSV 1 oneL 0 x.2.2.2.2.2.2.2.1, rowSV 3 kiL (0, 0, false) x.2.2.2.2.2.2.2.2, rowSV 2 plL (0, 0) l, r, g, .int .i64 0, .int .i64 0, .int .u32 0, .int .i64 0]
def xdcS (ts : List (Nat × SV)) (C : List SV) (B : List Int) (b : Option SB) (s : Rs) : St := ⟨(0, .ro B.length 1 (bG B)) :: (2, .ptr 0 0) :: (5, .ptr 1 0) :: (6, .ptr 2 0) :: ts, [(0, some (.cells 34 (xrgC 0 0 0 0 0 0 .nils .nils .nils))), (1, some (.cells 99 (rdC B s))), (2, some (.cells 34 C)), (3, b)], 4, [0, 1, 2, 3, 4, 5, 6, 7, 8, 9, 10, 11, 12], 113⟩
noncomputable abbrev xdcT : Env := tab.env re (fun _ => 0) xdcCut
noncomputable abbrev xdcE : Env := { tab.env re (fun _ => 0) xdcCut with callee := calls (tab.env re (fun _ => 0) xdcCut) (keepF xdcR) re.dom 1 }
noncomputable abbrev xdcF : Func := Tryz.f12
abbrev xdcP0 : List Nat := [1, 1, 1, 1, 1, 0, 1, 0]
abbrev xdcP2 : List Nat := [1, 1, 1, 1, 1, 1, 1, 0, 1, 0]
theorem xdc_entry (B : List Int) (K : KC) : calls xdcT (keepF xdcR) re.dom 2 12 [.ro B.length 1 (bG B)] [] K =
  ((bytesG B.length (bG B)) ∧ ((rdOk (rowB B.length (bG B)) { pos := 0, last := 0, err := 0, place := 0 }) ∧ (∀ (a398 : GX), ∀ (s397 : Rs), ∀ (_ : Is2 (gndX (rowB B.length (bG B)) { pos := 0, last := 0, err := 0, place := 0 }) a398 s397), (lowI 64) ∧ (rdS (manyX 3 64 placeR) B s397 fun (a392 : List (Int × Int)) (s391 : Rs) => rdS (countR 0 16) B s391 fun (a387 : Int) (s386 : Rs) => ∃ q_, loopE xdcE (keepF xdcR 0) xdcF xdcP0 0 0 K q_ { tmps := [(0, SV.ro B.length 1 (bG B)), (2, SV.ptr 0 0), (5, SV.ptr 1 0), (6, SV.ptr 2 0), (7, SV.int .i64 a387), (8, SV.int .i64 0)], store := [(0, some (SB.cells 34 [SV.int .i64 0, SV.int .i64 0, SV.int .i64 0, SV.int .i64 0, SV.int .i64 0, SV.int .i64 0, SV.nils, SV.nils, SV.nils, SV.nils, SV.nils, SV.nils, SV.int .i64 0, SV.int .i64 0, SV.int .u32 0, SV.int .i64 0])), (1, some (SB.cells 99 (rdC B s386))), (2, some (SB.cells 34 [SV.int .i64 a398.snd.fst, SV.int .i64 a398.snd.snd.fst, SV.int .i64 a398.snd.snd.snd.fst, SV.int .i64 a398.snd.snd.snd.snd.fst, SV.int .i64 a398.snd.snd.snd.snd.snd.fst.fst, SV.int .i64 a398.snd.snd.snd.snd.snd.fst.snd, SV.ro a398.snd.snd.snd.snd.snd.snd.fst.length 1 (listG oneL 0 a398.snd.snd.snd.snd.snd.snd.fst), SV.ro a398.snd.snd.snd.snd.snd.snd.snd.fst.length 1 (listG oneL 0 a398.snd.snd.snd.snd.snd.snd.snd.fst), SV.ro a398.snd.snd.snd.snd.snd.snd.snd.snd.length 3 (listG kiL (0, 0, false) a398.snd.snd.snd.snd.snd.snd.snd.snd), SV.ro a392.length 2 (listG plL (0, 0) a392), SV.nils, SV.nils, SV.int .i64 0, SV.int .i64 0, SV.int .u32 0, SV.int .i64 0])), (3, none)], nxt := 4, dirty := [0, 1, 2, 3, 4, 5, 6, 7, 8, 9, 10, 11, 12], nt := 113 })))) := by kernel_rfl
theorem xdc_r0n (x : GX) (l : List (Int × Int)) (n : Int) (B : List Int) (s : Rs) (K : Ex → St → Prop) : roundE xdcE (keepF xdcR 0) xdcF xdcP0 0 K (xdcS [(7, .int .i64 n), (8, .int .i64 0)] (xdcC x l .nils .nils) B none s) =
  (Br (decide (0 < n)) (Br (s.err == 0) ((lowI 64) ∧ (rdS (manyX 2 64 placeR) B s fun (a395 : List (Int × Int)) (s394 : Rs) => K Ex.normal { tmps := [(0, SV.ro B.length 1 (bG B)), (2, SV.ptr 0 0), (5, SV.ptr 1 0), (6, SV.ptr 2 0), (7, SV.int .i64 n), (8, SV.int .i64 1)], store := [(0, some (SB.cells 34 [SV.int .i64 0, SV.int .i64 0, SV.int .i64 0, SV.int .i64 0, SV.int .i64 0, SV.int .i64 0, SV.nils, SV.nils, SV.nils, SV.nils, SV.nils, SV.nils, SV.int .i64 0, SV.int .i64 0, SV.int .u32 0, SV.int .i64 0])), (1, some (SB.cells 99 (rdC B s394))), (2, some (SB.cells 34 [SV.int .i64 x.snd.fst, SV.int .i64 x.snd.snd.fst, SV.int .i64 x.snd.snd.snd.fst, SV.int .i64 x.snd.snd.snd.snd.fst, SV.int .i64 x.snd.snd.snd.snd.snd.fst.fst, SV.int .i64 x.snd.snd.snd.snd.snd.fst.snd, SV.ro x.snd.snd.snd.snd.snd.snd.fst.length 1 (listG oneL 0 x.snd.snd.snd.snd.snd.snd.fst), SV.ro x.snd.snd.snd.snd.snd.snd.snd.fst.length 1 (listG oneL 0 x.snd.snd.snd.snd.snd.snd.snd.fst), SV.ro x.snd.snd.snd.snd.snd.snd.snd.snd.length 3 (listG kiL (0, 0, false) x.snd.snd.snd.snd.snd.snd.snd.snd), SV.ro l.length 2 (listG plL (0, 0) l), SV.own 3 0 1 1, SV.nils, SV.int .i64 0, SV.int .i64 0, SV.int .u32 0, SV.int .i64 0])), (3, some (SB.row 28 1 1 fun (i : Nat) => cut [SV.ro a395.length 2 (listG plL (0, 0) a395)] (i * 1) 1))], nxt := 4, dirty := [0, 1, 2, 3, 4, 5, 6, 7, 8, 9, 10, 11, 12], nt := 113 })) (K (Ex.exit 0) { tmps := [(0, SV.ro B.length 1 (bG B)), (2, SV.ptr 0 0), (5, SV.ptr 1 0), (6, SV.ptr 2 0), (7, SV.int .i64 n), (8, SV.int .i64 0)], store := [(0, some (SB.cells 34 [SV.int .i64 0, SV.int .i64 0, SV.int .i64 0, SV.int .i64 0, SV.int .i64 0, SV.int .i64 0, SV.nils, SV.nils, SV.nils, SV.nils, SV.nils, SV.nils, SV.int .i64 0, SV.int .i64 0, SV.int .u32 0, SV.int .i64 0])), (1, some (SB.cells 99 (rdC B s))), (2, some (SB.cells 34 [SV.int .i64 x.snd.fst, SV.int .i64 x.snd.snd.fst, SV.int .i64 x.snd.snd.snd.fst, SV.int .i64 x.snd.snd.snd.snd.fst, SV.int .i64 x.snd.snd.snd.snd.snd.fst.fst, SV.int .i64 x.snd.snd.snd.snd.snd.fst.snd, SV.ro x.snd.snd.snd.snd.snd.snd.fst.length 1 (listG oneL 0 x.snd.snd.snd.snd.snd.snd.fst), SV.ro x.snd.snd.snd.snd.snd.snd.snd.fst.length 1 (listG oneL 0 x.snd.snd.snd.snd.snd.snd.snd.fst), SV.ro x.snd.snd.snd.snd.snd.snd.snd.snd.length 3 (listG kiL (0, 0, false) x.snd.snd.snd.snd.snd.snd.snd.snd), SV.ro l.length 2 (listG plL (0, 0) l), SV.nils, SV.nils, SV.int .i64 0, SV.int .i64 0, SV.int .u32 0, SV.int .i64 0])), (3, none)], nxt := 4, dirty := [0, 1, 2, 3, 4, 5, 6, 7, 8, 9, 10, 11, 12], nt := 113 })) (K (Ex.exit 0) { tmps := [(0, SV.ro B.length 1 (bG B)), (2, SV.ptr 0 0), (5, SV.ptr 1 0), (6, SV.ptr 2 0), (7, SV.int .i64 n), (8, SV.int .i64 0)], store := [(0, some (SB.cells 34 [SV.int .i64 0, SV.int .i64 0, SV.int .i64 0, SV.int .i64 0, SV.int .i64 0, SV.int .i64 0, SV.nils, SV.nils, SV.nils, SV.nils, SV.nils, SV.nils, SV.int .i64 0, SV.int .i64 0, SV.int .u32 0, SV.int .i64 0])), (1, some (SB.cells 99 (rdC B s))), (2, some (SB.cells 34 [SV.int .i64 x.snd.fst, SV.int .i64 x.snd.snd.fst, SV.int .i64 x.snd.snd.snd.fst, SV.int .i64 x.snd.snd.snd.snd.fst, SV.int .i64 x.snd.snd.snd.snd.snd.fst.fst, SV.int .i64 x.snd.snd.snd.snd.snd.fst.snd, SV.ro x.snd.snd.snd.snd.snd.snd.fst.length 1 (listG oneL 0 x.snd.snd.snd.snd.snd.snd.fst), SV.ro x.snd.snd.snd.snd.snd.snd.snd.fst.length 1 (listG oneL 0 x.snd.snd.snd.snd.snd.snd.snd.fst), SV.ro x.snd.snd.snd.snd.snd.snd.snd.snd.length 3 (listG kiL (0, 0, false) x.snd.snd.snd.snd.snd.snd.snd.snd), SV.ro l.length 2 (listG plL (0, 0) l), SV.nils, SV.nils, SV.int .i64 0, SV.int .i64 0, SV.int .u32 0, SV.int .i64 0])), (3, none)], nxt := 4, dirty := [0, 1, 2, 3, 4, 5, 6, 7, 8, 9, 10, 11, 12], nt := 113 })) := by kernel_rfl
theorem xdc_r0o (x : GX) (l : List (Int × Int)) (n : Int) (B : List Int) (i m : Nat) (g : Nat → List SV) (s : Rs) (K : Ex → St → Prop) : roundE xdcE (keepF xdcR 0) xdcF xdcP0 0 K (xdcS [(7, .int .i64 n), (8, .int .i64 i)] (xdcC x l (.own 3 0 1 m) .nils) B (some (.row 28 1 m g)) s) =
  (Br (decide ((↑i : Int) < n)) (Br (s.err == 0) ((lowI 64) ∧ (rdS (manyX 2 64 placeR) B s fun (a395 : List (Int × Int)) (s394 : Rs) => Br (decide ((m + 1) * 24 ≤ 1099511627776) && decide (m + 1 < 9223372036854775808) && decide (m = m)) (K Ex.normal { tmps := [(0, SV.ro B.length 1 (bG B)), (2, SV.ptr 0 0), (5, SV.ptr 1 0), (6, SV.ptr 2 0), (7, SV.int .i64 n), (8, SV.int .i64 (IntKind.i64.wrap ((↑i : Int) + 1)))], store := [(0, some (SB.cells 34 [SV.int .i64 0, SV.int .i64 0, SV.int .i64 0, SV.int .i64 0, SV.int .i64 0, SV.int .i64 0, SV.nils, SV.nils, SV.nils, SV.nils, SV.nils, SV.nils, SV.int .i64 0, SV.int .i64 0, SV.int .u32 0, SV.int .i64 0])), (1, some (SB.cells 99 (rdC B s394))), (2, some (SB.cells 34 [SV.int .i64 x.snd.fst, SV.int .i64 x.snd.snd.fst, SV.int .i64 x.snd.snd.snd.fst, SV.int .i64 x.snd.snd.snd.snd.fst, SV.int .i64 x.snd.snd.snd.snd.snd.fst.fst, SV.int .i64 x.snd.snd.snd.snd.snd.fst.snd, SV.ro x.snd.snd.snd.snd.snd.snd.fst.length 1 (listG oneL 0 x.snd.snd.snd.snd.snd.snd.fst), SV.ro x.snd.snd.snd.snd.snd.snd.snd.fst.length 1 (listG oneL 0 x.snd.snd.snd.snd.snd.snd.snd.fst), SV.ro x.snd.snd.snd.snd.snd.snd.snd.snd.length 3 (listG kiL (0, 0, false) x.snd.snd.snd.snd.snd.snd.snd.snd), SV.ro l.length 2 (listG plL (0, 0) l), SV.own 3 0 1 (m + 1), SV.nils, SV.int .i64 0, SV.int .i64 0, SV.int .u32 0, SV.int .i64 0])), (3, some (SB.row 28 1 (m + 1) (rowPut m [SV.ro a395.length 2 (listG plL (0, 0) a395)] g)))], nxt := 4, dirty := [0, 1, 2, 3, 4, 5, 6, 7, 8, 9, 10, 11, 12], nt := 113 }) (False))) (K (Ex.exit 0) { tmps := [(0, SV.ro B.length 1 (bG B)), (2, SV.ptr 0 0), (5, SV.ptr 1 0), (6, SV.ptr 2 0), (7, SV.int .i64 n), (8, SV.int .i64 (↑i : Int))], store := [(0, some (SB.cells 34 [SV.int .i64 0, SV.int .i64 0, SV.int .i64 0, SV.int .i64 0, SV.int .i64 0, SV.int .i64 0, SV.nils, SV.nils, SV.nils, SV.nils, SV.nils, SV.nils, SV.int .i64 0, SV.int .i64 0, SV.int .u32 0, SV.int .i64 0])), (1, some (SB.cells 99 (rdC B s))), (2, some (SB.cells 34 [SV.int .i64 x.snd.fst, SV.int .i64 x.snd.snd.fst, SV.int .i64 x.snd.snd.snd.fst, SV.int .i64 x.snd.snd.snd.snd.fst, SV.int .i64 x.snd.snd.snd.snd.snd.fst.fst, SV.int .i64 x.snd.snd.snd.snd.snd.fst.snd, SV.ro x.snd.snd.snd.snd.snd.snd.fst.length 1 (listG oneL 0 x.snd.snd.snd.snd.snd.snd.fst), SV.ro x.snd.snd.snd.snd.snd.snd.snd.fst.length 1 (listG oneL 0 x.snd.snd.snd.snd.snd.snd.snd.fst), SV.ro x.snd.snd.snd.snd.snd.snd.snd.snd.length 3 (listG kiL (0, 0, false) x.snd.snd.snd.snd.snd.snd.snd.snd), SV.ro l.length 2 (listG plL (0, 0) l), SV.own 3 0 1 m, SV.nils, SV.int .i64 0, SV.int .i64 0, SV.int .u32 0, SV.int .i64 0])), (3, some (SB.row 28 1 m g))], nxt := 4, dirty := [0, 1, 2, 3, 4, 5, 6, 7, 8, 9, 10, 11, 12], nt := 113 })) (K (Ex.exit 0) { tmps := [(0, SV.ro B.length 1 (bG B)), (2, SV.ptr 0 0), (5, SV.ptr 1 0), (6, SV.ptr 2 0), (7, SV.int .i64 n), (8, SV.int .i64 (↑i : Int))], store := [(0, some (SB.cells 34 [SV.int .i64 0, SV.int .i64 0, SV.int .i64 0, SV.int .i64 0, SV.int .i64 0, SV.int .i64 0, SV.nils, SV.nils, SV.nils, SV.nils, SV.nils, SV.nils, SV.int .i64 0, SV.int .i64 0, SV.int .u32 0, SV.int .i64 0])), (1, some (SB.cells 99 (rdC B s))), (2, some (SB.cells 34 [SV.int .i64 x.snd.fst, SV.int .i64 x.snd.snd.fst, SV.int .i64 x.snd.snd.snd.fst, SV.int .i64 x.snd.snd.snd.snd.fst, SV.int .i64 x.snd.snd.snd.snd.snd.fst.fst, SV.int .i64 x.snd.snd.snd.snd.snd.fst.snd, SV.ro x.snd.snd.snd.snd.snd.snd.fst.length 1 (listG oneL 0 x.snd.snd.snd.snd.snd.snd.fst), SV.ro x.snd.snd.snd.snd.snd.snd.snd.fst.length 1 (listG oneL 0 x.snd.snd.snd.snd.snd.snd.snd.fst), SV.ro x.snd.snd.snd.snd.snd.snd.snd.snd.length 3 (listG kiL (0, 0, false) x.snd.snd.snd.snd.snd.snd.snd.snd), SV.ro l.length 2 (listG plL (0, 0) l), SV.own 3 0 1 m, SV.nils, SV.int .i64 0, SV.int .i64 0, SV.int .u32 0, SV.int .i64 0])), (3, some (SB.row 28 1 m g))], nxt := 4, dirty := [0, 1, 2, 3, 4, 5, 6, 7, 8, 9, 10, 11, 12], nt := 113 })) := by kernel_rfl
theorem xdc_a0n (x : GX) (l : List (Int × Int)) (n : Int) (B : List Int) (i : Nat) (s : Rs) (K : KC) : afterE xdcE (keepF xdcR 0) xdcF xdcP0 0 K (.exit 0) (xdcS [(7, .int .i64 n), (8, .int .i64 i)] (xdcC x l .nils .nils) B none s) =
  (rdS (countR 1 16) B s fun (a398 : Int) (s397 : Rs) => ∃ q_, loopE xdcE (keepF xdcR 0) xdcF xdcP2 2 0 K q_ { tmps := [(0, SV.ro B.length 1 (bG B)), (2, SV.ptr 0 0), (5, SV.ptr 1 0), (6, SV.ptr 2 0), (7, SV.int .i64 a398), (9, SV.int .i64 0)], store := [(0, some (SB.cells 34 [SV.int .i64 0, SV.int .i64 0, SV.int .i64 0, SV.int .i64 0, SV.int .i64 0, SV.int .i64 0, SV.nils, SV.nils, SV.nils, SV.nils, SV.nils, SV.nils, SV.int .i64 0, SV.int .i64 0, SV.int .u32 0, SV.int .i64 0])), (1, some (SB.cells 99 (rdC B s397))), (2, some (SB.cells 34 [SV.int .i64 x.snd.fst, SV.int .i64 x.snd.snd.fst, SV.int .i64 x.snd.snd.snd.fst, SV.int .i64 x.snd.snd.snd.snd.fst, SV.int .i64 x.snd.snd.snd.snd.snd.fst.fst, SV.int .i64 x.snd.snd.snd.snd.snd.fst.snd, SV.ro x.snd.snd.snd.snd.snd.snd.fst.length 1 (listG oneL 0 x.snd.snd.snd.snd.snd.snd.fst), SV.ro x.snd.snd.snd.snd.snd.snd.snd.fst.length 1 (listG oneL 0 x.snd.snd.snd.snd.snd.snd.snd.fst), SV.ro x.snd.snd.snd.snd.snd.snd.snd.snd.length 3 (listG kiL (0, 0, false) x.snd.snd.snd.snd.snd.snd.snd.snd), SV.ro l.length 2 (listG plL (0, 0) l), SV.ro 0 1 (fzN [SV.ro 0 2 (listG plL (0, 0) [])]), SV.nils, SV.int .i64 0, SV.int .i64 0, SV.int .u32 0, SV.int .i64 0])), (3, none)], nxt := 4, dirty := [0, 1, 2, 3, 4, 5, 6, 7, 8, 9, 10, 11, 12], nt := 113 }) := by kernel_rfl
theorem xdc_a0o (x : GX) (l : List (Int × Int)) (n : Int) (B : List Int) (i m : Nat) (g : Nat → List SV) (s : Rs) (K : KC) : afterE xdcE (keepF xdcR 0) xdcF xdcP0 0 K (.exit 0) (xdcS [(7, .int .i64 n), (8, .int .i64 i)] (xdcC x l (.own 3 0 1 m) .nils) B (some (.row 28 1 m g)) s) =
  (rdS (countR 1 16) B s fun (a398 : Int) (s397 : Rs) => ∃ q_, loopE xdcE (keepF xdcR 0) xdcF xdcP2 2 0 K q_ { tmps := [(0, SV.ro B.length 1 (bG B)), (2, SV.ptr 0 0), (5, SV.ptr 1 0), (6, SV.ptr 2 0), (7, SV.int .i64 a398), (9, SV.int .i64 0)], store := [(0, some (SB.cells 34 [SV.int .i64 0, SV.int .i64 0, SV.int .i64 0, SV.int .i64 0, SV.int .i64 0, SV.int .i64 0, SV.nils, SV.nils, SV.nils, SV.nils, SV.nils, SV.nils, SV.int .i64 0, SV.int .i64 0, SV.int .u32 0, SV.int .i64 0])), (1, some (SB.cells 99 (rdC B s397))), (2, some (SB.cells 34 [SV.int .i64 x.snd.fst, SV.int .i64 x.snd.snd.fst, SV.int .i64 x.snd.snd.snd.fst, SV.int .i64 x.snd.snd.snd.snd.fst, SV.int .i64 x.snd.snd.snd.snd.snd.fst.fst, SV.int .i64 x.snd.snd.snd.snd.snd.fst.snd, SV.ro x.snd.snd.snd.snd.snd.snd.fst.length 1 (listG oneL 0 x.snd.snd.snd.snd.snd.snd.fst), SV.ro x.snd.snd.snd.snd.snd.snd.snd.fst.length 1 (listG oneL 0 x.snd.snd.snd.snd.snd.snd.snd.fst), SV.ro x.snd.snd.snd.snd.snd.snd.snd.snd.length 3 (listG kiL (0, 0, false) x.snd.snd.snd.snd.snd.snd.snd.snd), SV.ro l.length 2 (listG plL (0, 0) l), SV.ro m 1 (fzG m m [SV.ro 0 2 (listG plL (0, 0) [])] g), SV.nils, SV.int .i64 0, SV.int .i64 0, SV.int .u32 0, SV.int .i64 0])), (3, none)], nxt := 4, dirty := [0, 1, 2, 3, 4, 5, 6, 7, 8, 9, 10, 11, 12], nt := 113 }) := by kernel_rfl
theorem xdc_r2n (x : GX) (l : List (Int × Int)) (r : List (List (Int × Int))) (n : Int) (B : List Int) (s : Rs) (K : Ex → St → Prop) : roundE xdcE (keepF xdcR 0) xdcF xdcP2 2 K (xdcS [(7, .int .i64 n), (9, .int .i64 0)] (xdcC x l (rowSV 1 raL [] r) .nils) B none s) =
  (Br (decide (0 < n)) (Br (s.err == 0) (rdS (placeR) B s fun (a396 : Int × Int) (s395 : Rs) => rdS (placeR) B s395 fun (a391 : Int × Int) (s390 : Rs) => rdS (flagR) B s390 fun (a386 : Bool) (s385 : Rs) => K Ex.normal { tmps := [(0, SV.ro B.length 1 (bG B)), (2, SV.ptr 0 0), (5, SV.ptr 1 0), (6, SV.ptr 2 0), (7, SV.int .i64 n), (9, SV.int .i64 1)], store := [(0, some (SB.cells 34 [SV.int .i64 0, SV.int .i64 0, SV.int .i64 0, SV.int .i64 0, SV.int .i64 0, SV.int .i64 0, SV.nils, SV.nils, SV.nils, SV.nils, SV.nils, SV.nils, SV.int .i64 0, SV.int .i64 0, SV.int .u32 0, SV.int .i64 0])), (1, some (SB.cells 99 (rdC B s385))), (2, some (SB.cells 34 [SV.int .i64 x.snd.fst, SV.int .i64 x.snd.snd.fst, SV.int .i64 x.snd.snd.snd.fst, SV.int .i64 x.snd.snd.snd.snd.fst, SV.int .i64 x.snd.snd.snd.snd.snd.fst.fst, SV.int .i64 x.snd.snd.snd.snd.snd.fst.snd, SV.ro x.snd.snd.snd.snd.snd.snd.fst.length 1 (listG oneL 0 x.snd.snd.snd.snd.snd.snd.fst), SV.ro x.snd.snd.snd.snd.snd.snd.snd.fst.length 1 (listG oneL 0 x.snd.snd.snd.snd.snd.snd.snd.fst), SV.ro x.snd.snd.snd.snd.snd.snd.snd.snd.length 3 (listG kiL (0, 0, false) x.snd.snd.snd.snd.snd.snd.snd.snd), SV.ro l.length 2 (listG plL (0, 0) l), SV.ro r.length 1 (listG raL [] r), SV.own 3 0 5 1, SV.int .i64 0, SV.int .i64 0, SV.int .u32 0, SV.int .i64 0])), (3, some (SB.row 67 5 1 fun (i : Nat) => cut [SV.int .i64 a396.fst, SV.int .i64 a396.snd, SV.int .i64 a391.fst, SV.int .i64 a391.snd, SV.bool a386] (i * 5) 5))], nxt := 4, dirty := [0, 1, 2, 3, 4, 5, 6, 7, 8, 9, 10, 11, 12], nt := 113 }) (K (Ex.exit 2) { tmps := [(0, SV.ro B.length 1 (bG B)), (2, SV.ptr 0 0), (5, SV.ptr 1 0), (6, SV.ptr 2 0), (7, SV.int .i64 n), (9, SV.int .i64 0)], store := [(0, some (SB.cells 34 [SV.int .i64 0, SV.int .i64 0, SV.int .i64 0, SV.int .i64 0, SV.int .i64 0, SV.int .i64 0, SV.nils, SV.nils, SV.nils, SV.nils, SV.nils, SV.nils, SV.int .i64 0, SV.int .i64 0, SV.int .u32 0, SV.int .i64 0])), (1, some (SB.cells 99 (rdC B s))), (2, some (SB.cells 34 [SV.int .i64 x.snd.fst, SV.int .i64 x.snd.snd.fst, SV.int .i64 x.snd.snd.snd.fst, SV.int .i64 x.snd.snd.snd.snd.fst, SV.int .i64 x.snd.snd.snd.snd.snd.fst.fst, SV.int .i64 x.snd.snd.snd.snd.snd.fst.snd, SV.ro x.snd.snd.snd.snd.snd.snd.fst.length 1 (listG oneL 0 x.snd.snd.snd.snd.snd.snd.fst), SV.ro x.snd.snd.snd.snd.snd.snd.snd.fst.length 1 (listG oneL 0 x.snd.snd.snd.snd.snd.snd.snd.fst), SV.ro x.snd.snd.snd.snd.snd.snd.snd.snd.length 3 (listG kiL (0, 0, false) x.snd.snd.snd.snd.snd.snd.snd.snd), SV.ro l.length 2 (listG plL (0, 0) l), SV.ro r.length 1 (listG raL [] r), SV.nils, SV.int .i64 0, SV.int .i64 0, SV.int .u32 0, SV.int .i64 0])), (3, none)], nxt := 4, dirty := [0, 1, 2, 3, 4, 5, 6, 7, 8, 9, 10, 11, 12], nt := 113 })) (K (Ex.exit 2) { tmps := [(0, SV.ro B.length 1 (bG B)), (2, SV.ptr 0 0), (5, SV.ptr 1 0), (6, SV.ptr 2 0), (7, SV.int .i64 n), (9, SV.int .i64 0)], store := [(0, some (SB.cells 34 [SV.int .i64 0, SV.int .i64 0, SV.int .i64 0, SV.int .i64 0, SV.int .i64 0, SV.int .i64 0, SV.nils, SV.nils, SV.nils, SV.nils, SV.nils, SV.nils, SV.int .i64 0, SV.int .i64 0, SV.int .u32 0, SV.int .i64 0])), (1, some (SB.cells 99 (rdC B s))), (2, some (SB.cells 34 [SV.int .i64 x.snd.fst, SV.int .i64 x.snd.snd.fst, SV.int .i64 x.snd.snd.snd.fst, SV.int .i64 x.snd.snd.snd.snd.fst, SV.int .i64 x.snd.snd.snd.snd.snd.fst.fst, SV.int .i64 x.snd.snd.snd.snd.snd.fst.snd, SV.ro x.snd.snd.snd.snd.snd.snd.fst.length 1 (listG oneL 0 x.snd.snd.snd.snd.snd.snd.fst), SV.ro x.snd.snd.snd.snd.snd.snd.snd.fst.length 1 (listG oneL 0 x.snd.snd.snd.snd.snd.snd.snd.fst), SV.ro x.snd.snd.snd.snd.snd.snd.snd.snd.length 3 (listG kiL (0, 0, false) x.snd.snd.snd.snd.snd.snd.snd.snd), SV.ro l.length 2 (listG plL (0, 0) l), SV.ro r.length 1 (listG raL [] r), SV.nils, SV.int .i64 0, SV.int .i64 0, SV.int .u32 0, SV.int .i64 0])), (3, none)], nxt := 4, dirty := [0, 1, 2, 3, 4, 5, 6, 7, 8, 9, 10, 11, 12], nt := 113 })) := by kernel_rfl
theorem xdc_r2o (x : GX) (l : List (Int × Int)) (r : List (List (Int × Int))) (n : Int) (B : List Int) (i m : Nat) (g : Nat → List SV) (s : Rs) (K : Ex → St → Prop) : roundE xdcE (keepF xdcR 0) xdcF xdcP2 2 K (xdcS [(7, .int .i64 n), (9, .int .i64 i)] (xdcC x l (rowSV 1 raL [] r) (.own 3 0 5 m)) B (some (.row 67 5 m g)) s) =
  (Br (decide ((↑i : Int) < n)) (Br (s.err == 0) (rdS (placeR) B s fun (a396 : Int × Int) (s395 : Rs) => rdS (placeR) B s395 fun (a391 : Int × Int) (s390 : Rs) => rdS (flagR) B s390 fun (a386 : Bool) (s385 : Rs) => Br (decide ((m + 1) * 40 ≤ 1099511627776) && decide (m + 1 < 9223372036854775808) && decide (m = m)) (K Ex.normal { tmps := [(0, SV.ro B.length 1 (bG B)), (2, SV.ptr 0 0), (5, SV.ptr 1 0), (6, SV.ptr 2 0), (7, SV.int .i64 n), (9, SV.int .i64 (IntKind.i64.wrap ((↑i : Int) + 1)))], store := [(0, some (SB.cells 34 [SV.int .i64 0, SV.int .i64 0, SV.int .i64 0, SV.int .i64 0, SV.int .i64 0, SV.int .i64 0, SV.nils, SV.nils, SV.nils, SV.nils, SV.nils, SV.nils, SV.int .i64 0, SV.int .i64 0, SV.int .u32 0, SV.int .i64 0])), (1, some (SB.cells 99 (rdC B s385))), (2, some (SB.cells 34 [SV.int .i64 x.snd.fst, SV.int .i64 x.snd.snd.fst, SV.int .i64 x.snd.snd.snd.fst, SV.int .i64 x.snd.snd.snd.snd.fst, SV.int .i64 x.snd.snd.snd.snd.snd.fst.fst, SV.int .i64 x.snd.snd.snd.snd.snd.fst.snd, SV.ro x.snd.snd.snd.snd.snd.snd.fst.length 1 (listG oneL 0 x.snd.snd.snd.snd.snd.snd.fst), SV.ro x.snd.snd.snd.snd.snd.snd.snd.fst.length 1 (listG oneL 0 x.snd.snd.snd.snd.snd.snd.snd.fst), SV.ro x.snd.snd.snd.snd.snd.snd.snd.snd.length 3 (listG kiL (0, 0, false) x.snd.snd.snd.snd.snd.snd.snd.snd), SV.ro l.length 2 (listG plL (0, 0) l), SV.ro r.length 1 (listG raL [] r), SV.own 3 0 5 (m + 1), SV.int .i64 0, SV.int .i64 0, SV.int .u32 0, SV.int .i64 0])), (3, some (SB.row 67 5 (m + 1) (rowPut m [SV.int .i64 a396.fst, SV.int .i64 a396.snd, SV.int .i64 a391.fst, SV.int .i64 a391.snd, SV.bool a386] g)))], nxt := 4, dirty := [0, 1, 2, 3, 4, 5, 6, 7, 8, 9, 10, 11, 12], nt := 113 }) (False)) (K (Ex.exit 2) { tmps := [(0, SV.ro B.length 1 (bG B)), (2, SV.ptr 0 0), (5, SV.ptr 1 0), (6, SV.ptr 2 0), (7, SV.int .i64 n), (9, SV.int .i64 (↑i : Int))], store := [(0, some (SB.cells 34 [SV.int .i64 0, SV.int .i64 0, SV.int .i64 0, SV.int .i64 0, SV.int .i64 0, SV.int .i64 0, SV.nils, SV.nils, SV.nils, SV.nils, SV.nils, SV.nils, SV.int .i64 0, SV.int .i64 0, SV.int .u32 0, SV.int .i64 0])), (1, some (SB.cells 99 (rdC B s))), (2, some (SB.cells 34 [SV.int .i64 x.snd.fst, SV.int .i64 x.snd.snd.fst, SV.int .i64 x.snd.snd.snd.fst, SV.int .i64 x.snd.snd.snd.snd.fst, SV.int .i64 x.snd.snd.snd.snd.snd.fst.fst, SV.int .i64 x.snd.snd.snd.snd.snd.fst.snd, SV.ro x.snd.snd.snd.snd.snd.snd.fst.length 1 (listG oneL 0 x.snd.snd.snd.snd.snd.snd.fst), SV.ro x.snd.snd.snd.snd.snd.snd.snd.fst.length 1 (listG oneL 0 x.snd.snd.snd.snd.snd.snd.snd.fst), SV.ro x.snd.snd.snd.snd.snd.snd.snd.snd.length 3 (listG kiL (0, 0, false) x.snd.snd.snd.snd.snd.snd.snd.snd), SV.ro l.length 2 (listG plL (0, 0) l), SV.ro r.length 1 (listG raL [] r), SV.own 3 0 5 m, SV.int .i64 0, SV.int .i64 0, SV.int .u32 0, SV.int .i64 0])), (3, some (SB.row 67 5 m g))], nxt := 4, dirty := [0, 1, 2, 3, 4, 5, 6, 7, 8, 9, 10, 11, 12], nt := 113 })) (K (Ex.exit 2) { tmps := [(0, SV.ro B.length 1 (bG B)), (2, SV.ptr 0 0), (5, SV.ptr 1 0), (6, SV.ptr 2 0), (7, SV.int .i64 n), (9, SV.int .i64 (↑i : Int))], store := [(0, some (SB.cells 34 [SV.int .i64 0, SV.int .i64 0, SV.int .i64 0, SV.int .i64 0, SV.int .i64 0, SV.int .i64 0, SV.nils, SV.nils, SV.nils, SV.nils, SV.nils, SV.nils, SV.int .i64 0, SV.int .i64 0, SV.int .u32 0, SV.int .i64 0])), (1, some (SB.cells 99 (rdC B s))), (2, some (SB.cells 34 [SV.int .i64 x.snd.fst, SV.int .i64 x.snd.snd.fst, SV.int .i64 x.snd.snd.snd.fst, SV.int .i64 x.snd.snd.snd.snd.fst, SV.int .i64 x.snd.snd.snd.snd.snd.fst.fst, SV.int .i64 x.snd.snd.snd.snd.snd.fst.snd, SV.ro x.snd.snd.snd.snd.snd.snd.fst.length 1 (listG oneL 0 x.snd.snd.snd.snd.snd.snd.fst), SV.ro x.snd.snd.snd.snd.snd.snd.snd.fst.length 1 (listG oneL 0 x.snd.snd.snd.snd.snd.snd.snd.fst), SV.ro x.snd.snd.snd.snd.snd.snd.snd.snd.length 3 (listG kiL (0, 0, false) x.snd.snd.snd.snd.snd.snd.snd.snd), SV.ro l.length 2 (listG plL (0, 0) l), SV.ro r.length 1 (listG raL [] r), SV.own 3 0 5 m, SV.int .i64 0, SV.int .i64 0, SV.int .u32 0, SV.int .i64 0])), (3, some (SB.row 67 5 m g))], nxt := 4, dirty := [0, 1, 2, 3, 4, 5, 6, 7, 8, 9, 10, 11, 12], nt := 113 })) := by kernel_rfl
def xdcV (x : GX) (l : List (Int × Int)) (r : List (List (Int × Int))) (m : Nat) (gt : Nat → List SV) (p : Int × Int) (hd lp : Int) : Trk := trkOf x.2.1 x.2.2.1 x.2.2.2.1 x.2.2.2.2.1 x.2.2.2.2.2.1.1 x.2.2.2.2.2.1.2 x.2.2.2.2.2.2.1.length (listG oneL 0 x.2.2.2.2.2.2.1) x.2.2.2.2.2.2.2.1.length (listG oneL 0 x.2.2.2.2.2.2.2.1) x.2.2.2.2.2.2.2.2.length (listG kiL (0, 0, false) x.2.2.2.2.2.2.2.2) l.length (listG plL (0, 0) l) r.length (listG raL [] r) m gt p.1 p.2 hd lp
def xdcD (x : GX) (l : List (Int × Int)) (r : List (List (Int × Int))) (m : Nat) (gt : Nat → List SV) (p : Int × Int) (hd lp : Int) : SV := .agg [.int .i64 x.2.1, .int .i64 x.2.2.1, .int .i64 x.2.2.2.1, .int .i64 x.2.2.2.2.1, .int .i64 x.2.2.2.2.2.1.1, .int .i64 x.2.2.2.2.2.1.2, rowSV 1 oneL 0 x.2.2.2.2.2.2.1, rowSV 1 oneL 0 x.2.2.2.2.2.2.2.1, rowSV 3 kiL (0, 0, false) x.2.2.2.2.2.2.2.2, rowSV 2 plL (0, 0) l, rowSV 1 raL [] r, .ro m 5 gt, .int .i64 p.1, .int .i64 p.2, .int .u32 hd, .int .i64 lp]
def xdcRest (x : GX) (l : List (Int × Int)) (r : List (List (Int × Int))) (m : Nat) (gt : Nat → List SV) (p : Int × Int) (hd : Int) (B : List Int) (s : Rs) (K : KC) : Prop :=
  rdS (countR 1 100) B s fun lp s1 => rdS endR B s1 fun e _ =>
    Br (e.1 != 0) (K (.tup [zTrk, .int .i64 e.1, .int .i64 e.2]) [] [])
      (trkS (listG oneL 0 x.2.2.2.2.2.2.1) (listG oneL 0 x.2.2.2.2.2.2.2.1) (listG kiL (0, 0, false) x.2.2.2.2.2.2.2.2) (listG plL (0, 0) l) (listG raL [] r) gt ∧ smallC r.length (listG raL [] r) ∧
        Br ((rightV (xdcV x l r m gt p hd lp)).1 != 0) (K (.tup [zTrk, .int .i64 (rightV (xdcV x l r m gt p hd lp)).1, .int .i64 B.length]) [] []) (K (.tup [xdcD x l r m gt p hd lp, .int .i64 0, .int .i64 0]) [] []))
def xdcTail (x : GX) (l : List (Int × Int)) (r : List (List (Int × Int))) (m : Nat) (gt : Nat → List SV) (B : List Int) (s : Rs) (K : KC) : Prop :=
  rdS placeR B s fun p s1 => rdS numR B s1 fun a s2 => Br (decide (a < 0)) (rdS (fun _ => refuseR 40) B s2 fun _ s3 => xdcRest x l r m gt p (IntKind.u32.wrap a) B s3 K)
    (Br (decide (a > 4294967295)) (rdS (fun _ => refuseR 40) B s2 fun _ s3 => xdcRest x l r m gt p (IntKind.u32.wrap a) B s3 K) (xdcRest x l r m gt p (IntKind.u32.wrap a) B s2 K))
theorem xdc_a2n (x : GX) (l : List (Int × Int)) (r : List (List (Int × Int))) (n : Int) (B : List Int) (i : Nat) (s : Rs) (K : KC) : afterE xdcE (keepF xdcR 0) xdcF xdcP2 0 K (.exit 2) (xdcS [(7, .int .i64 n), (9, .int .i64 i)] (xdcC x l (rowSV 1 raL [] r) .nils) B none s) = xdcTail x l r 0 (fzN (gaL (0, 0, 0, 0, false))) B s K := by kernel_rfl
theorem xdc_a2o (x : GX) (l : List (Int × Int)) (r : List (List (Int × Int))) (n : Int) (B : List Int) (i m : Nat) (g : Nat → List SV) (s : Rs) (K : KC) : afterE xdcE (keepF xdcR 0) xdcF xdcP2 0 K (.exit 2) (xdcS [(7, .int .i64 n), (9, .int .i64 i)] (xdcC x l (rowSV 1 raL [] r) (.own 3 0 5 m)) B (some (.row 67 5 m g)) s) = xdcTail x l r m (fzG m m (gaL (0, 0, 0, 0, false)) g) B s K := by kernel_rfl




theorem head_odd {B : List Int} {s s1 s2 : Rs} {a : Int} {u : Unit} (e : numR B s = (a, s1)) (h : decide (a < 0) = true ∨ decide (a > 4294967295) = true) (e2 : refuseR 40 s1 = (u, s2)) : headR B s = (IntKind.u32.wrap a, s2) := by
  unfold headR
  simp only [e]
  have hc : (decide (a < 0) || decide (a > 4294967295)) = true := by rcases h with h | h <;> rw [h] <;> simp
  rw [hc, cond_true, e2]
theorem head_in {B : List Int} {s s1 : Rs} {a : Int} (e : numR B s = (a, s1)) (h1 : decide (a < 0) = false) (h2 : decide (a > 4294967295) = false) : headR B s = (IntKind.u32.wrap a, s1) := by
  unfold headR
  simp only [e]
  rw [h1, h2, Bool.false_or, cond_false]
  have h1 := of_decide_eq_false h1
  have h2 := of_decide_eq_false h2
  rw [show IntKind.u32.wrap a = a by rw [IntKind.wrap_u32]; omega]
theorem xdc_rest {B : List Int} {x : GX} {l p hd} {r : List (List (Int × Int))} {L : List (Int × Int × Int × Int × Bool)} {s14 : Rs} {K : KC} (h14 : rdOk B s14) (hsm : smallC r.length (listG raL [] r)) (hb : ∀ a15 s15, countR 1 100 B s14 = (a15, s15) → bodyX B ⟨0, 0, 0, 0⟩ = (⟨x.2.1, x.2.2.1, x.2.2.2.1, x.2.2.2.2.1, x.2.2.2.2.2.1, x.2.2.2.2.2.2.1, x.2.2.2.2.2.2.2.1, x.2.2.2.2.2.2.2.2, l, r, L, p, hd, a15⟩, s15)) (hK : K (decE (decO B)) [] []) :
    xdcRest x l r L.length (listG gaL (0, 0, 0, 0, false) L) p hd B s14 K := by
  refine rd_step (reads_count 1 100) h14 fun a15 s15 e15 h15 => ?_
  have eb := hb a15 s15 e15
  unfold rdS
  rw [rowB_bG rfl]
  refine ⟨bytes_bG rfl, h15, fun ee s20 e20 => ?_⟩
  rw [decX_eq eb (e := ee) (s1 := s20) e20] at hK
  refine Br.of (fun c => ?_) fun c => ?_
  · rw [c, cond_true] at hK
    unfold decE at hK
    rw [c] at hK
    exact hK
  · rw [c, cond_false] at hK
    refine ⟨TL.shape ⟨x.2.1, x.2.2.1, x.2.2.2.1, x.2.2.2.2.1, x.2.2.2.2.2.1, x.2.2.2.2.2.2.1, x.2.2.2.2.2.2.2.1, x.2.2.2.2.2.2.2.2, l, r, L, p, hd, a15⟩, hsm, ?_⟩
    have hx1 : xdcV x l r L.length (listG gaL (0, 0, 0, 0, false) L) p hd a15 = TL.trk ⟨x.2.1, x.2.2.1, x.2.2.2.1, x.2.2.2.2.1, x.2.2.2.2.2.1, x.2.2.2.2.2.2.1, x.2.2.2.2.2.2.2.1, x.2.2.2.2.2.2.2.2, l, r, L, p, hd, a15⟩ := rfl
    rw [hx1]
    refine Br.of (fun c2 => ?_) fun c2 => ?_
    · rw [c2, cond_true] at hK
      unfold decE at hK
      rw [c2] at hK
      exact hK
    · rw [c2, cond_false] at hK
      have hK2 : K (.tup [.agg (trkC (TL.trk ⟨x.2.1, x.2.2.1, x.2.2.2.1, x.2.2.2.2.1, x.2.2.2.2.2.1, x.2.2.2.2.2.2.1, x.2.2.2.2.2.2.2.1, x.2.2.2.2.2.2.2.2, l, r, L, p, hd, a15⟩)), .int .i64 0, .int .i64 0]) [] [] := hK
      have ht := trkC_of (TL.shape ⟨x.2.1, x.2.2.1, x.2.2.2.1, x.2.2.2.2.1, x.2.2.2.2.2.1, x.2.2.2.2.2.2.1, x.2.2.2.2.2.2.2.1, x.2.2.2.2.2.2.2.2, l, r, L, p, hd, a15⟩) x.2.1 x.2.2.1 x.2.2.2.1 x.2.2.2.2.1 x.2.2.2.2.2.1.1 x.2.2.2.2.2.1.2 x.2.2.2.2.2.2.1.length x.2.2.2.2.2.2.2.1.length x.2.2.2.2.2.2.2.2.length l.length r.length L.length p.1 p.2 hd a15
      rw [show trkC (TL.trk ⟨x.2.1, x.2.2.1, x.2.2.2.1, x.2.2.2.2.1, x.2.2.2.2.2.1, x.2.2.2.2.2.2.1, x.2.2.2.2.2.2.2.1, x.2.2.2.2.2.2.2.2, l, r, L, p, hd, a15⟩) = _ from ht.symm] at hK2
      exact hK2
theorem xdc_tail {B : List Int} {x : GX} {l} {r : List (List (Int × Int))} {L : List (Int × Int × Int × Int × Bool)} {s : Rs} {K : KC} (hs : rdOk B s) (hsm : smallC r.length (listG raL [] r)) (hb : ∀ p s12 hd s14 a15 s15, placeR B s = (p, s12) → headR B s12 = (hd, s14) → countR 1 100 B s14 = (a15, s15) → bodyX B ⟨0, 0, 0, 0⟩ = (⟨x.2.1, x.2.2.1, x.2.2.2.1, x.2.2.2.2.1, x.2.2.2.2.2.1, x.2.2.2.2.2.2.1, x.2.2.2.2.2.2.2.1, x.2.2.2.2.2.2.2.2, l, r, L, p, hd, a15⟩, s15)) (hK : K (decE (decO B)) [] []) :
    xdcTail x l r L.length (listG gaL (0, 0, 0, 0, false) L) B s K := by
  refine rd_step reads_place hs fun p s12 e12 h12 => rd_step reads_num h12 fun a s13 e13 h13 => ?_
  refine Br.of (fun c => rd_step (reads_refuse 40) h13 fun u s14 e14 h14 => xdc_rest h14 hsm (fun a15 s15 e15 => hb p s12 _ s14 a15 s15 e12 (head_odd e13 (.inl c) e14) e15) hK) fun c =>
    Br.of (fun c2 => rd_step (reads_refuse 40) h13 fun u s14 e14 h14 => xdc_rest h14 hsm (fun a15 s15 e15 => hb p s12 _ s14 a15 s15 e12 (head_odd e13 (.inr c2) e14) e15) hK) fun c2 =>
      xdc_rest h13 hsm (fun a15 s15 e15 => hb p s12 _ s13 a15 s15 e12 (head_in e13 c c2) e15) hK
theorem xdc_g2 {x : GX} {l : List (Int × Int)} {r : List (List (Int × Int))} {n : Int} {B : List Int} {s0 : Rs} (hn : n ≤ 100000) (h0 : rdOk B s0) (K : KC) (hsm : smallC r.length (listG raL [] r)) (hb : ∀ L s p s12 hd s14 a15 s15, takeX gateR n.toNat B s0 = (L, s) → placeR B s = (p, s12) → headR B s12 = (hd, s14) → countR 1 100 B s14 = (a15, s15) → bodyX B ⟨0, 0, 0, 0⟩ = (⟨x.2.1, x.2.2.1, x.2.2.2.1, x.2.2.2.2.1, x.2.2.2.2.2.1, x.2.2.2.2.2.2.1, x.2.2.2.2.2.2.2.1, x.2.2.2.2.2.2.2.2, l, r, L, p, hd, a15⟩, s15)) (hK : K (decE (decO B)) [] []) :
    ∃ q, loopE xdcE (keepF xdcR 0) xdcF xdcP2 2 0 K q (xdcS [(7, .int .i64 n), (9, .int .i64 0)] (xdcC x l (rowSV 1 raL [] r) .nils) B none s0) := by
  refine takeX_loop (f := gaL) (st := 5) (e := 67) (id := 3) (fun _ => rfl) reads_gate h0 (n).toNat (fun i o b s => xdcS [(7, .int .i64 n), (9, .int .i64 i)] (xdcC x l (rowSV 1 raL [] r) o) B b s) (fun h0 s hs he X hX => ?_) (fun i hi hi0 s g hs he X hX => ?_) (fun i o b L s hend hi hlen ht hs hgo X => ?_)
  · refine Eq.mpr (xdc_r2n ..) ?_
    refine Br.of (fun _ => Br.of (fun _ => rd_step reads_place hs fun a s1 e1 h1 => rd_step reads_place h1 fun b s2 e2 h2 => rd_step reads_flag h2 fun c s3 e3 h3 => hX (a.1, a.2, b.1, b.2, c) s3 (thenR_eq e1 (thenR_eq e2 e3)) h3) fun c => absurd he (ne_of_beq_false c)) fun c => ?_
    have c : ¬ (0 : Int) < n := of_decide_eq_false c
    omega
  · rw [xdc_r2o, wi64_succ hi (by omega)]
    refine Br.of (fun _ => Br.of (fun _ => rd_step reads_place hs fun a s1 e1 h1 => rd_step reads_place h1 fun b s2 e2 h2 => rd_step reads_flag h2 fun c s3 e3 h3 => Br.of (fun _ => hX (a.1, a.2, b.1, b.2, c) s3 (thenR_eq e1 (thenR_eq e2 e3)) h3) fun c => ?_) fun c => absurd he (ne_of_beq_false c)) fun c => ?_
    · simp at c; omega
    · have c : ¬ ((i : Nat) : Int) < n := of_decide_eq_false c
      omega
  · rcases ht with ⟨hL, h1, h2⟩ | ⟨g, hne, h1, h2, hg⟩
    · subst hL; subst h1; subst h2
      obtain rfl : i = 0 := hlen.symm
      have hx : afterE xdcE (keepF xdcR 0) xdcF xdcP2 0 K (.exit 2) (xdcS [(7, .int .i64 n), (9, .int .i64 (0 : Nat))] (xdcC x l (rowSV 1 raL [] r) .nils) B none s) := by
        refine Eq.mpr (xdc_a2n ..) ?_
        exact xdc_tail (L := []) hs hsm (fun p s12 hd s14 a15 s15 => hb _ _ p s12 hd s14 a15 s15 hgo) hK
      refine Eq.mpr (xdc_r2n ..) ?_
      refine Br.of (fun c => Br.of (fun c2 => ?_) fun _ => hx) fun _ => hx
      have c : (0 : Int) < n := of_decide_eq_true c
      rcases hend with h | h
      · omega
      · exact absurd (eq_of_beq c2) h
    · subst h1; subst h2
      have hx : afterE xdcE (keepF xdcR 0) xdcF xdcP2 0 K (.exit 2) (xdcS [(7, .int .i64 n), (9, .int .i64 i)] (xdcC x l (rowSV 1 raL [] r) (.own 3 0 5 L.length)) B (some (.row 67 5 L.length g)) s) := by
        refine Eq.mpr (xdc_a2o ..) ?_
        rw [fz_listG (d := (0, 0, 0, 0, false)) hg]
        exact xdc_tail hs hsm (fun p s12 hd s14 a15 s15 => hb _ _ p s12 hd s14 a15 s15 hgo) hK
      rw [xdc_r2o]
      refine Br.of (fun c => Br.of (fun c2 => ?_) fun _ => hx) fun _ => hx
      have c : ((i : Nat) : Int) < n := of_decide_eq_true c
      rcases hend with h | h
      · omega
      · exact absurd (eq_of_beq c2) h
theorem xdc_g0 {x : GX} {l : List (Int × Int)} {n : Int} {B : List Int} {s0 : Rs} (hn : n ≤ 100000) (h0 : rdOk B s0) (K : KC) (hsm : ∀ r s, takeX railX n.toNat B s0 = (r, s) → smallC r.length (listG raL [] r)) (hb : ∀ r s L s' p s12 hd s14 a15 s15, takeX railX n.toNat B s0 = (r, s) → manyX 1 16 gateR B s = (L, s') → placeR B s' = (p, s12) → headR B s12 = (hd, s14) → countR 1 100 B s14 = (a15, s15) → bodyX B ⟨0, 0, 0, 0⟩ = (⟨x.2.1, x.2.2.1, x.2.2.2.1, x.2.2.2.2.1, x.2.2.2.2.2.1, x.2.2.2.2.2.2.1, x.2.2.2.2.2.2.2.1, x.2.2.2.2.2.2.2.2, l, r, L, p, hd, a15⟩, s15)) (hK : K (decE (decO B)) [] []) :
    ∃ q, loopE xdcE (keepF xdcR 0) xdcF xdcP0 0 0 K q (xdcS [(7, .int .i64 n), (8, .int .i64 0)] (xdcC x l .nils .nils) B none s0) := by
  refine takeX_loop (f := raL) (st := 1) (e := 28) (id := 3) (fun _ => rfl) reads_railX h0 (n).toNat (fun i o b s => xdcS [(7, .int .i64 n), (8, .int .i64 i)] (xdcC x l o .nils) B b s) (fun h0 s hs he X hX => ?_) (fun i hi hi0 s g hs he X hX => ?_) (fun i o b L s hend hi hlen ht hs hgo X => ?_)
  · refine Eq.mpr (xdc_r0n ..) ?_
    refine Br.of (fun _ => Br.of (fun _ => rd_stepP (reads_manyX reads_place) hs (by unfold lowI; decide) fun a s1 e1 h1 => hX a s1 e1 h1) fun c => absurd he (ne_of_beq_false c)) fun c => ?_
    have c : ¬ (0 : Int) < n := of_decide_eq_false c
    omega
  · rw [xdc_r0o, wi64_succ hi (by omega)]
    refine Br.of (fun _ => Br.of (fun _ => rd_stepP (reads_manyX reads_place) hs (by unfold lowI; decide) fun a s1 e1 h1 => Br.of (fun _ => hX a s1 e1 h1) fun c => ?_) fun c => absurd he (ne_of_beq_false c)) fun c => ?_
    · simp at c; omega
    · have c : ¬ ((i : Nat) : Int) < n := of_decide_eq_false c
      omega
  · rcases ht with ⟨hL, h1, h2⟩ | ⟨g, hne, h1, h2, hg⟩
    · subst hL; subst h1; subst h2
      obtain rfl : i = 0 := hlen.symm
      have hx : afterE xdcE (keepF xdcR 0) xdcF xdcP0 0 K (.exit 0) (xdcS [(7, .int .i64 n), (8, .int .i64 (0 : Nat))] (xdcC x l .nils .nils) B none s) := by
        refine Eq.mpr (xdc_a0n ..) ?_
        refine rd_step (reads_count 1 16) hs fun n2 s1 e1 h1 => ?_
        have := xdc_g2 (x := x) (l := l) (r := ([] : List (List (Int × Int)))) (n := n2) (B := B) (s0 := s1) (by rcases count_range e1 with h | h <;> omega) h1 K (hsm _ _ hgo) (fun L2 s2 p s12 hd s14 a15 s15 e2 => hb _ _ L2 s2 p s12 hd s14 a15 s15 hgo (thenR_eq e1 e2)) hK
        exact this
      refine Eq.mpr (xdc_r0n ..) ?_
      refine Br.of (fun c => Br.of (fun c2 => ?_) fun _ => hx) fun _ => hx
      have c : (0 : Int) < n := of_decide_eq_true c
      rcases hend with h | h
      · omega
      · exact absurd (eq_of_beq c2) h
    · subst h1; subst h2
      have hx : afterE xdcE (keepF xdcR 0) xdcF xdcP0 0 K (.exit 0) (xdcS [(7, .int .i64 n), (8, .int .i64 i)] (xdcC x l (.own 3 0 1 L.length) .nils) B (some (.row 28 1 L.length g)) s) := by
        refine Eq.mpr (xdc_a0o ..) ?_
        refine rd_step (reads_count 1 16) hs fun n2 s1 e1 h1 => ?_
        have := xdc_g2 (x := x) (l := l) (r := L) (n := n2) (B := B) (s0 := s1) (by rcases count_range e1 with h | h <;> omega) h1 K (hsm _ _ hgo) (fun L2 s2 p s12 hd s14 a15 s15 e2 => hb _ _ L2 s2 p s12 hd s14 a15 s15 hgo (thenR_eq e1 e2)) hK
        unfold rowSV at this
        rw [← fz_listG (d := ([] : List (Int × Int))) hg] at this
        exact this
      rw [xdc_r0o]
      refine Br.of (fun c => Br.of (fun c2 => ?_) fun _ => hx) fun _ => hx
      have c : ((i : Nat) : Int) < n := of_decide_eq_true c
      rcases hend with h | h
      · omega
      · exact absurd (eq_of_beq c2) h
theorem xdc_law {B : List Int} (K : KC) (hK : K (decE (decO B)) [] []) : calls xdcT (keepF xdcR) re.dom 2 12 [.ro B.length 1 (bG B)] [] K := by
  rw [xdc_entry]
  have h0 : rdOk B ⟨0, 0, 0, 0⟩ := ⟨Int.le_refl _, Int.natCast_nonneg _⟩
  refine rd_step reads_gndX h0 fun x s8 e8 h8 => ?_
  refine rd_stepP (reads_manyX reads_place) h8 (by unfold lowI; decide) fun l s9 e9 h9 => ?_
  refine rd_step (reads_count 0 16) h9 fun n s10 e10 h10 => ?_
  obtain ⟨u, a1, a2, a3, a4, a5, a6, a7, a8, z0, z1, z2, z3, z4, z5, z6, z7, rfl, f0, f1, f2, f3, f4, f5, f6, f7, f8⟩ := gndX_chain e8
  exact xdc_g0 (by rcases count_range e10 with h | h <;> omega) h10 K (fun r s e => rails_smallX (thenR_eq e10 e)) (fun r s L s' p s12 hd s14 a15 s15 er eL ep eh ec => bodyX_eq f0 f1 f2 f3 f4 f5 f6 f7 f8 e9 (thenR_eq e10 er) eL ep eh ec) hK
theorem xdc_ok (B : List Int) : CallOK Tryz.prog 12 [.ro B.length 1 (bG B)] [] (decT (decO B)) [] [] := by
  obtain ⟨v, σ', d, ⟨rfl, rfl, rfl⟩, hc⟩ := calls_sat (env := xdcT) ⟨tab.htt, re.ok⟩ tab.mixed (fun n => keepF_weaker n xdcR) tab.hft 2 _ _ _ (fun v σ' d => v = decE (decO B) ∧ σ' = [] ∧ d = []) (xdc_law _ ⟨rfl, rfl, rfl⟩)
  exact callOK_val (fun ρ T w v h => decE_T B ρ T w v h) hc
def cXDec : List SV → List (Option SB) → KC → Prop
  | [.ro n 1 g], [], K => bytesG n g ∧ decK (rowB n g) [] [] K
  | _, _, _ => False
theorem xdec_sat (xs : List SV) (σ : List (Option SB)) : Sat Tryz.prog 12 xs σ (cXDec xs σ) := by
  intro K hK
  unfold cXDec at hK
  split at hK
  · rename_i n g
    have e := rowB_len' n g
    have := xdc_ok (rowB n g)
    rw [e, ← hK.1] at this
    exact decK_ok rfl hK.2 this
  · exact hK.elim
noncomputable def rf : Know Tryz.prog := (re).add 12 cXDec xdec_sat
end Go.Proofs.YtbedljhbakdghaaGreatDoor

namespace Go.Proofs.YtbedljhbakdghaaGreatDoor
open Go.Se
set_option maxRecDepth 100000
theorem ldec_nf (B : List Int) (K : KC) : run rf 2 4 [.ro B.length 1 (bG B)] [] K =
  (Br (decide ((↑B.length : Int) > 20000)) (K (SV.bool true) [] []) ((∀ (i : Nat), i < B.length → (bG B i).length = 1 ∧ (bG B i).all oneCell = true) ∧ (Br (true && (decide (B.length * 1 ≤ 1099511627776) && decide (B.length < 9223372036854775808))) (Br (decide (0 < B.length)) ((bytesG B.length (bG B)) ∧ ((B.length ≤ B.length) ∧ ((B.length ≤ 1000000) ∧ (∀ (t393 : Trk), ∀ (e392 : Int), ∀ (a391 : Int), ∀ (_ : IsD (rowB B.length (bG B)) t393 e392 a391), (bytesG B.length (bG B)) ∧ (∀ (t388 : Trk), ∀ (e387 : Int), ∀ (a386 : Int), ∀ (_ : IsD (rowB B.length (bG B)) t388 e387 a386), (trkS (oneG t393.h) (oneG t393.g) (kindG t393) (ptsG t393.lx t393.ly) (railG t393) (gateG t393)) ∧ ((trkS (oneG t388.h) (oneG t388.g) (kindG t388) (ptsG t388.lx t388.ly) (railG t388) (gateG t388)) ∧ ((sameT t393 t388) ∧ (Br (e392 == e387) (Br (a391 == a386) (K (SV.bool true) [] []) (K (SV.bool false) [] [])) (K (SV.bool false) [] []))))))))) (∀ (t396 : Trk), ∀ (e395 : Int), ∀ (a394 : Int), ∀ (_ : IsD [] t396 e395 a394), (bytesG B.length (bG B)) ∧ (∀ (t391 : Trk), ∀ (e390 : Int), ∀ (a389 : Int), ∀ (_ : IsD (rowB B.length (bG B)) t391 e390 a389), (trkS (oneG t396.h) (oneG t396.g) (kindG t396) (ptsG t396.lx t396.ly) (railG t396) (gateG t396)) ∧ ((trkS (oneG t391.h) (oneG t391.g) (kindG t391) (ptsG t391.lx t391.ly) (railG t391) (gateG t391)) ∧ ((sameT t396 t391) ∧ (Br (e395 == e390) (Br (a394 == a389) (K (SV.bool true) [] []) (K (SV.bool false) [] [])) (K (SV.bool false) [] []))))))) (False)))) := by kernel_rfl
theorem ldec_ok (B : List Int) : CallOK Tryz.prog 4 [.ro B.length 1 (bG B)] [] (.bool true) [] [] :=
  run_ok rf 2 fun _ _ K hK => by
    rw [ldec_nf, rowB_bG rfl]
    refine Br.of (fun _ => hK) fun c => ?_
    have hc := of_decide_eq_false c
    refine ⟨fun i _ => ⟨rfl, rfl⟩, Br.of (fun _ => Br.of (fun _ => ?_) fun h0 => ?_) fun c => ?_⟩
    · refine ⟨bytes_bG rfl, Nat.le_refl _, by omega, ?_⟩
      rintro t e a ⟨tl, hd, rfl⟩
      refine ⟨bytes_bG rfl, ?_⟩
      rintro t e a ⟨tl, hd', rfl⟩
      rw [hd] at hd'
      cases hd'
      exact ⟨trkS_of _, trkS_of _, sameT_refl _, Br.of (fun _ => Br.of (fun _ => hK) fun c => by simp at c) fun c => by simp at c⟩
    · have h0 := of_decide_eq_false h0
      obtain rfl : B = [] := List.length_eq_zero_iff.1 (by omega)
      rintro t e a ⟨tl, hd, rfl⟩
      refine ⟨bytes_bG rfl, ?_⟩
      rintro t e a ⟨tl, hd', rfl⟩
      rw [hd] at hd'
      cases hd'
      exact ⟨trkS_of _, trkS_of _, sameT_refl _, Br.of (fun _ => Br.of (fun _ => hK) fun c => by simp at c) fun c => by simp at c⟩
    · simp at c; omega
end Go.Proofs.YtbedljhbakdghaaGreatDoor

