import Derived.Test.YtbedljhbakdghaaGreatDoorWa
namespace Go.Proofs.YtbedljhbakdghaaGreatDoor
open Go.Se
set_option maxRecDepth 100000
def encKeep : Keep × List ((Nat × List Nat) × Nat) := (⟨[1, 6], [0, 1, 2], [0, 1, 2, 3, 4, 5], 3, []⟩, [((6, [0]), 2)])
def encR : List (Nat × Keep × List ((Nat × List Nat) × Nat)) := (List.range 15).map fun i => (i + 2000006, encKeep)
def encCut : Nat → Bool := fun i => Nat.ble 6 i && Nat.ble i 20
noncomputable abbrev encE : Env := { tab.env w6 (fun _ => 0) encCut with callee := calls (tab.env w6 (fun _ => 0) encCut) (keepP encR) w6.dom 3 }
noncomputable abbrev encF : Func := Tryz.f8
def encS (t : Trk) (L : List Int) : St := ⟨[(1, .ptr 0 0), (6, .ptr 1 0)], [(0, some (.cells 34 (trkC t))), (1, some (.cells 51 [.own 2 0 1 L.length])), (2, some (.row 5 1 L.length (bG L)))], 3, [0, 1, 2, 3, 4, 5], 104⟩
noncomputable abbrev encA : Code := .seq (codeAt (bodyOf encF) [0]) (.seq (codeAt (bodyOf encF) [1, 0]) (.seq (codeAt (bodyOf encF) [1, 1, 0]) (codeAt (bodyOf encF) [1, 1, 1, 0])))
theorem enc_start (t : Trk) (K : Ex → St → Prop) : evalCode encE (keepP encR 0) 1000000 encA K ⟨params [.agg (trkC t)] 0, stores [] 0, 0, [], 104⟩ =
  ((trkS (oneG t.h) (oneG t.g) (kindG t) (ptsG t.lx t.ly) (railG t) (gateG t)) ∧ ((smallC t.nr (railG t)) ∧ (Br ((rightV t).fst != 0) (K Ex.ret { tmps := [(3, SV.int .i64 (rightV t).fst), (2, SV.nils), (14, SV.int .i64 (rightV t).fst), (13, SV.bool true), (12, SV.int .i64 (rightV t).fst), (5, SV.int .i64 (rightV t).snd), (4, SV.int .i64 (rightV t).fst), (11, SV.int .i64 (rightV t).snd), (10, SV.int .i64 (rightV t).fst), (7, SV.tup [SV.int .i64 (rightV t).fst, SV.int .i64 (rightV t).snd]), (9, SV.tup [SV.int .i64 (rightV t).fst, SV.int .i64 (rightV t).snd]), (8, SV.agg (trkC t)), (3, SV.int .i64 0), (2, SV.nils), (1, SV.ptr 0 0), (0, SV.agg (trkC t))], store := [(0, some (SB.cells 34 (trkC t)))], nxt := 1, dirty := [], nt := 104 }) (K Ex.normal { tmps := [(20, SV.tup []), (19, SV.ptr 1 0), (18, SV.ptr 1 0), (17, SV.ptr 1 0), (6, SV.ptr 1 0), (16, SV.ptr 1 0), (15, SV.agg [SV.nils]), (13, SV.bool false), (12, SV.int .i64 (rightV t).fst), (5, SV.int .i64 (rightV t).snd), (4, SV.int .i64 (rightV t).fst), (11, SV.int .i64 (rightV t).snd), (10, SV.int .i64 (rightV t).fst), (7, SV.tup [SV.int .i64 (rightV t).fst, SV.int .i64 (rightV t).snd]), (9, SV.tup [SV.int .i64 (rightV t).fst, SV.int .i64 (rightV t).snd]), (8, SV.agg (trkC t)), (3, SV.int .i64 0), (2, SV.nils), (1, SV.ptr 0 0), (0, SV.agg (trkC t))], store := [(1, some (SB.cells 51 [SV.own 2 0 1 4])), (2, some (SB.lst 5 [SV.int .u8 67, SV.int .u8 72, SV.int .u8 84, SV.int .u8 82])), (1, some (SB.cells 51 [SV.nils])), (0, some (SB.cells 34 (trkC t)))], nxt := 3, dirty := [1], nt := 104 })))) := by kernel_rfl
def encM : List SV := [.int .u8 67, .int .u8 72, .int .u8 84, .int .u8 82]
def markB : List Int := [67, 72, 84, 82]
def encS0 (t : Trk) : St := ⟨[(1, .ptr 0 0), (6, .ptr 1 0)], [(0, some (.cells 34 (trkC t))), (1, some (.cells 51 [.own 2 0 1 4])), (2, some (.row 5 1 4 (fun i => cut encM (i * 1) 1)))], 3, [0, 1, 2, 3, 4, 5], 104⟩
theorem enc6 (t : Trk) (K : Ex → St → Prop) : evalCode encE (keepP encR 0) 1000000 (codeAt (bodyOf encF) [1, 1, 1, 1, 0]) K (encS0 t) =
  ((∀ (i : Nat), i < 4 → isByte ((fun (i : Nat) => cut encM (i * 1) 1) i) = true) ∧ (K Ex.normal { tmps := [(26, SV.tup []), (25, SV.int .i64 t.rate), (24, SV.ptr 0 0), (23, SV.ptr 1 0), (22, SV.ptr 1 0), (21, SV.ptr 1 0), (1, SV.ptr 0 0), (6, SV.ptr 1 0)], store := [(1, some (SB.cells 51 [SV.own 3 0 1 6])), (2, none), (3, some (SB.row 5 1 6 (bG ((rowB 4 fun (i : Nat) => cut encM (i * 1) 1) ++ le 2 (wd t.rate))))), (0, some (SB.cells 34 (trkC t))), (1, some (SB.cells 51 [SV.own 2 0 1 4])), (2, some (SB.row 5 1 4 fun (i : Nat) => cut [SV.int .u8 67, SV.int .u8 72, SV.int .u8 84, SV.int .u8 82] (i * 1) 1))], nxt := 4, dirty := [0, 1, 2, 3, 4, 5], nt := 104 })) := by kernel_rfl
theorem enc7 (t : Trk) (L : List Int) (K : Ex → St → Prop) : evalCode encE (keepP encR 0) 1000000 (codeAt (bodyOf encF) [1, 1, 1, 1, 1, 0]) K (encS t L) =
  ((∀ (i : Nat), i < L.length → isByte (bG L i) = true) ∧ (Br (decide (L.length = L.length) && decide (L.length + (le 8 (wd t.cell)).length ≤ 1000000000)) (K Ex.normal { tmps := [(30, SV.tup []), (29, SV.int .i64 t.cell), (28, SV.ptr 0 1), (27, SV.ptr 1 0), (1, SV.ptr 0 0), (6, SV.ptr 1 0)], store := [(1, some (SB.cells 51 [SV.own 3 0 1 (L.length + (le 8 (wd t.cell)).length)])), (2, none), (3, some (SB.row 5 1 (L.length + (le 8 (wd t.cell)).length) (bG (rowB L.length (bG L) ++ le 8 (wd t.cell))))), (0, some (SB.cells 34 (trkC t))), (1, some (SB.cells 51 [SV.own 2 0 1 L.length])), (2, some (SB.row 5 1 L.length (bG L)))], nxt := 4, dirty := [0, 1, 2, 3, 4, 5], nt := 104 }) (False))) := by kernel_rfl
theorem enc8 (t : Trk) (L : List Int) (K : Ex → St → Prop) : evalCode encE (keepP encR 0) 1000000 (codeAt (bodyOf encF) [1, 1, 1, 1, 1, 1, 0]) K (encS t L) =
  ((∀ (i : Nat), i < L.length → isByte (bG L i) = true) ∧ (Br (decide (L.length = L.length) && decide (L.length + (le 2 (wd t.cols)).length ≤ 1000000000)) (K Ex.normal { tmps := [(36, SV.tup []), (35, SV.int .i64 t.cols), (34, SV.ptr 0 2), (33, SV.ptr 1 0), (32, SV.ptr 1 0), (31, SV.ptr 1 0), (1, SV.ptr 0 0), (6, SV.ptr 1 0)], store := [(1, some (SB.cells 51 [SV.own 3 0 1 (L.length + (le 2 (wd t.cols)).length)])), (2, none), (3, some (SB.row 5 1 (L.length + (le 2 (wd t.cols)).length) (bG (rowB L.length (bG L) ++ le 2 (wd t.cols))))), (0, some (SB.cells 34 (trkC t))), (1, some (SB.cells 51 [SV.own 2 0 1 L.length])), (2, some (SB.row 5 1 L.length (bG L)))], nxt := 4, dirty := [0, 1, 2, 3, 4, 5], nt := 104 }) (False))) := by kernel_rfl
theorem enc9 (t : Trk) (L : List Int) (K : Ex → St → Prop) : evalCode encE (keepP encR 0) 1000000 (codeAt (bodyOf encF) [1, 1, 1, 1, 1, 1, 1, 0]) K (encS t L) =
  ((∀ (i : Nat), i < L.length → isByte (bG L i) = true) ∧ (Br (decide (L.length = L.length) && decide (L.length + (le 2 (wd t.rows)).length ≤ 1000000000)) (K Ex.normal { tmps := [(42, SV.tup []), (41, SV.int .i64 t.rows), (40, SV.ptr 0 3), (39, SV.ptr 1 0), (38, SV.ptr 1 0), (37, SV.ptr 1 0), (1, SV.ptr 0 0), (6, SV.ptr 1 0)], store := [(1, some (SB.cells 51 [SV.own 3 0 1 (L.length + (le 2 (wd t.rows)).length)])), (2, none), (3, some (SB.row 5 1 (L.length + (le 2 (wd t.rows)).length) (bG (rowB L.length (bG L) ++ le 2 (wd t.rows))))), (0, some (SB.cells 34 (trkC t))), (1, some (SB.cells 51 [SV.own 2 0 1 L.length])), (2, some (SB.row 5 1 L.length (bG L)))], nxt := 4, dirty := [0, 1, 2, 3, 4, 5], nt := 104 }) (False))) := by kernel_rfl
theorem enc10 (t : Trk) (L : List Int) (K : Ex → St → Prop) : evalCode encE (keepP encR 0) 1000000 (codeAt (bodyOf encF) [1, 1, 1, 1, 1, 1, 1, 1, 0]) K (encS t L) =
  ((∀ (i : Nat), i < L.length → isByte (bG L i) = true) ∧ (Br (decide (L.length = L.length) && decide (L.length + (ptB t.cx t.cy).length ≤ 1000000000)) (K Ex.normal { tmps := [(46, SV.tup []), (45, SV.agg [SV.int .i64 t.cx, SV.int .i64 t.cy]), (44, SV.ptr 0 4), (43, SV.ptr 1 0), (1, SV.ptr 0 0), (6, SV.ptr 1 0)], store := [(1, some (SB.cells 51 [SV.own 3 0 1 (L.length + (ptB t.cx t.cy).length)])), (2, none), (3, some (SB.row 5 1 (L.length + (ptB t.cx t.cy).length) (bG (rowB L.length (bG L) ++ ptB t.cx t.cy)))), (0, some (SB.cells 34 (trkC t))), (1, some (SB.cells 51 [SV.own 2 0 1 L.length])), (2, some (SB.row 5 1 L.length (bG L)))], nxt := 4, dirty := [0, 1, 2, 3, 4, 5], nt := 104 }) (False))) := by kernel_rfl
theorem enc11 (t : Trk) (L : List Int) (K : Ex → St → Prop) : evalCode encE (keepP encR 0) 1000000 (codeAt (bodyOf encF) [1, 1, 1, 1, 1, 1, 1, 1, 1, 0]) K (encS t L) =
  ((ones (oneG t.h)) ∧ ((∀ (i : Nat), i < L.length → isByte (bG L i) = true) ∧ ((L.length + (cat ((fun (h : Nat → List SV) (i : Nat) => le 8 (wd (px (h i)))) (oneG t.h)) t.nh).length ≤ 1000000000) ∧ ((L.length = L.length) ∧ (K Ex.normal { tmps := [(51, SV.tup []), (50, SV.fn (Fn.func 18) [SV.ptr 1 0] []), (49, SV.ptr 1 0), (48, SV.ro t.nh 1 (oneG t.h)), (47, SV.ptr 0 6), (1, SV.ptr 0 0), (6, SV.ptr 1 0)], store := [(1, some (SB.cells 51 [SV.own 3 0 1 (L.length + (cat ((fun (h : Nat → List SV) (i : Nat) => le 8 (wd (px (h i)))) (oneG t.h)) t.nh).length)])), (2, none), (3, some (SB.row 5 1 (L.length + (cat ((fun (h : Nat → List SV) (i : Nat) => le 8 (wd (px (h i)))) (oneG t.h)) t.nh).length) (bG (rowB L.length (bG L) ++ cat ((fun (h : Nat → List SV) (i : Nat) => le 8 (wd (px (h i)))) (oneG t.h)) t.nh)))), (0, some (SB.cells 34 (trkC t))), (1, some (SB.cells 51 [SV.own 2 0 1 L.length])), (2, some (SB.row 5 1 L.length (bG L)))], nxt := 4, dirty := [0, 1, 2, 3, 4, 5], nt := 104 }))))) := by kernel_rfl
theorem enc12 (t : Trk) (L : List Int) (K : Ex → St → Prop) : evalCode encE (keepP encR 0) 1000000 (codeAt (bodyOf encF) [1, 1, 1, 1, 1, 1, 1, 1, 1, 1, 0]) K (encS t L) =
  ((ones (oneG t.g)) ∧ ((∀ (i : Nat), i < L.length → isByte (bG L i) = true) ∧ ((L.length + (cat ((fun (h : Nat → List SV) (i : Nat) => le 2 (wd (px (h i)))) (oneG t.g)) t.ng).length ≤ 1000000000) ∧ ((L.length = L.length) ∧ (K Ex.normal { tmps := [(58, SV.tup []), (57, SV.fn (Fn.func 17) [SV.ptr 1 0] []), (56, SV.ptr 1 0), (55, SV.ptr 1 0), (54, SV.ptr 1 0), (53, SV.ro t.ng 1 (oneG t.g)), (52, SV.ptr 0 7), (1, SV.ptr 0 0), (6, SV.ptr 1 0)], store := [(1, some (SB.cells 51 [SV.own 3 0 1 (L.length + (cat ((fun (h : Nat → List SV) (i : Nat) => le 2 (wd (px (h i)))) (oneG t.g)) t.ng).length)])), (2, none), (3, some (SB.row 5 1 (L.length + (cat ((fun (h : Nat → List SV) (i : Nat) => le 2 (wd (px (h i)))) (oneG t.g)) t.ng).length) (bG (rowB L.length (bG L) ++ cat ((fun (h : Nat → List SV) (i : Nat) => le 2 (wd (px (h i)))) (oneG t.g)) t.ng)))), (0, some (SB.cells 34 (trkC t))), (1, some (SB.cells 51 [SV.own 2 0 1 L.length])), (2, some (SB.row 5 1 L.length (bG L)))], nxt := 4, dirty := [0, 1, 2, 3, 4, 5], nt := 104 }))))) := by kernel_rfl
theorem enc13 (t : Trk) (L : List Int) (K : Ex → St → Prop) : evalCode encE (keepP encR 0) 1000000 (codeAt (bodyOf encF) [1, 1, 1, 1, 1, 1, 1, 1, 1, 1, 1, 0]) K (encS t L) =
  ((∀ (i : Nat), i < L.length → isByte (bG L i) = true) ∧ (Br (decide (L.length = L.length) && decide (L.length + (le 2 (wd (↑t.nk : Int))).length ≤ 1000000000)) ((kindsG (kindG t)) ∧ ((∀ (i : Nat), i < L.length + (le 2 (wd (↑t.nk : Int))).length → isByte (bG (rowB L.length (bG L) ++ le 2 (wd (↑t.nk : Int))) i) = true) ∧ ((L.length + (le 2 (wd (↑t.nk : Int))).length + (cat ((fun (h : Nat → List SV) (i : Nat) => kindB (px (h i)) (py (h i)) (pz (h i))) (kindG t)) t.nk).length ≤ 1000000000) ∧ ((L.length + (le 2 (wd (↑t.nk : Int))).length = L.length + (le 2 (wd (↑t.nk : Int))).length) ∧ (K Ex.normal { tmps := [(64, SV.tup []), (63, SV.fn (Fn.func 23) [SV.ptr 1 0] []), (62, SV.ptr 1 0), (61, SV.ro t.nk 3 (kindG t)), (60, SV.ptr 0 8), (59, SV.ptr 1 0), (1, SV.ptr 0 0), (6, SV.ptr 1 0)], store := [(1, some (SB.cells 51 [SV.own 3 0 1 (L.length + (le 2 (wd (↑t.nk : Int))).length + (cat ((fun (h : Nat → List SV) (i : Nat) => kindB (px (h i)) (py (h i)) (pz (h i))) (kindG t)) t.nk).length)])), (2, none), (3, some (SB.row 5 1 (L.length + (le 2 (wd (↑t.nk : Int))).length + (cat ((fun (h : Nat → List SV) (i : Nat) => kindB (px (h i)) (py (h i)) (pz (h i))) (kindG t)) t.nk).length) (bG (rowB (L.length + (le 2 (wd (↑t.nk : Int))).length) (bG (rowB L.length (bG L) ++ le 2 (wd (↑t.nk : Int)))) ++ cat ((fun (h : Nat → List SV) (i : Nat) => kindB (px (h i)) (py (h i)) (pz (h i))) (kindG t)) t.nk)))), (0, some (SB.cells 34 (trkC t))), (1, some (SB.cells 51 [SV.own 2 0 1 L.length])), (2, some (SB.row 5 1 L.length (bG L)))], nxt := 4, dirty := [0, 1, 2, 3, 4, 5], nt := 104 }))))) (False))) := by kernel_rfl
theorem enc14 (t : Trk) (L : List Int) (K : Ex → St → Prop) : evalCode encE (keepP encR 0) 1000000 (codeAt (bodyOf encF) [1, 1, 1, 1, 1, 1, 1, 1, 1, 1, 1, 1, 0]) K (encS t L) =
  ((∀ (i : Nat), i < L.length → isByte (bG L i) = true) ∧ (Br (decide (L.length = L.length) && decide (L.length + (le 2 (wd (↑t.nl : Int))).length ≤ 1000000000)) ((pts (ptsG t.lx t.ly)) ∧ ((∀ (i : Nat), i < L.length + (le 2 (wd (↑t.nl : Int))).length → isByte (bG (rowB L.length (bG L) ++ le 2 (wd (↑t.nl : Int))) i) = true) ∧ ((L.length + (le 2 (wd (↑t.nl : Int))).length + (cat ((fun (h : Nat → List SV) (i : Nat) => ptB (px (h i)) (py (h i))) (ptsG t.lx t.ly)) t.nl).length ≤ 1000000000) ∧ ((L.length + (le 2 (wd (↑t.nl : Int))).length = L.length + (le 2 (wd (↑t.nl : Int))).length) ∧ (K Ex.normal { tmps := [(70, SV.tup []), (69, SV.fn (Fn.func 19) [SV.ptr 1 0] []), (68, SV.ptr 1 0), (67, SV.ro t.nl 2 (ptsG t.lx t.ly)), (66, SV.ptr 0 9), (65, SV.ptr 1 0), (1, SV.ptr 0 0), (6, SV.ptr 1 0)], store := [(1, some (SB.cells 51 [SV.own 3 0 1 (L.length + (le 2 (wd (↑t.nl : Int))).length + (cat ((fun (h : Nat → List SV) (i : Nat) => ptB (px (h i)) (py (h i))) (ptsG t.lx t.ly)) t.nl).length)])), (2, none), (3, some (SB.row 5 1 (L.length + (le 2 (wd (↑t.nl : Int))).length + (cat ((fun (h : Nat → List SV) (i : Nat) => ptB (px (h i)) (py (h i))) (ptsG t.lx t.ly)) t.nl).length) (bG (rowB (L.length + (le 2 (wd (↑t.nl : Int))).length) (bG (rowB L.length (bG L) ++ le 2 (wd (↑t.nl : Int)))) ++ cat ((fun (h : Nat → List SV) (i : Nat) => ptB (px (h i)) (py (h i))) (ptsG t.lx t.ly)) t.nl)))), (0, some (SB.cells 34 (trkC t))), (1, some (SB.cells 51 [SV.own 2 0 1 L.length])), (2, some (SB.row 5 1 L.length (bG L)))], nxt := 4, dirty := [0, 1, 2, 3, 4, 5], nt := 104 }))))) (False))) := by kernel_rfl
theorem enc15 (t : Trk) (L : List Int) (K : Ex → St → Prop) : evalCode encE (keepP encR 0) 1000000 (codeAt (bodyOf encF) [1, 1, 1, 1, 1, 1, 1, 1, 1, 1, 1, 1, 1, 0]) K (encS t L) =
  ((∀ (i : Nat), i < L.length → isByte (bG L i) = true) ∧ (Br (decide (L.length = L.length) && decide (L.length + (le 2 (wd (↑t.nr : Int))).length ≤ 1000000000)) ((railsS (railG t)) ∧ ((∀ (i : Nat), i < L.length + (le 2 (wd (↑t.nr : Int))).length → isByte (bG (rowB L.length (bG L) ++ le 2 (wd (↑t.nr : Int))) i) = true) ∧ ((L.length + (le 2 (wd (↑t.nr : Int))).length + (cat ((fun (h : Nat → List SV) (i : Nat) => railB (rlen (h i)) (fun (k : Nat) => px (rget (h i) k)) fun (k : Nat) => py (rget (h i) k)) (railG t)) t.nr).length ≤ 1000000000) ∧ ((L.length + (le 2 (wd (↑t.nr : Int))).length = L.length + (le 2 (wd (↑t.nr : Int))).length) ∧ (K Ex.normal { tmps := [(76, SV.tup []), (75, SV.fn (Fn.func 26) [SV.ptr 1 0] []), (74, SV.ptr 1 0), (73, SV.ro t.nr 1 (railG t)), (72, SV.ptr 0 10), (71, SV.ptr 1 0), (1, SV.ptr 0 0), (6, SV.ptr 1 0)], store := [(1, some (SB.cells 51 [SV.own 3 0 1 (L.length + (le 2 (wd (↑t.nr : Int))).length + (cat ((fun (h : Nat → List SV) (i : Nat) => railB (rlen (h i)) (fun (k : Nat) => px (rget (h i) k)) fun (k : Nat) => py (rget (h i) k)) (railG t)) t.nr).length)])), (2, none), (3, some (SB.row 5 1 (L.length + (le 2 (wd (↑t.nr : Int))).length + (cat ((fun (h : Nat → List SV) (i : Nat) => railB (rlen (h i)) (fun (k : Nat) => px (rget (h i) k)) fun (k : Nat) => py (rget (h i) k)) (railG t)) t.nr).length) (bG (rowB (L.length + (le 2 (wd (↑t.nr : Int))).length) (bG (rowB L.length (bG L) ++ le 2 (wd (↑t.nr : Int)))) ++ cat ((fun (h : Nat → List SV) (i : Nat) => railB (rlen (h i)) (fun (k : Nat) => px (rget (h i) k)) fun (k : Nat) => py (rget (h i) k)) (railG t)) t.nr)))), (0, some (SB.cells 34 (trkC t))), (1, some (SB.cells 51 [SV.own 2 0 1 L.length])), (2, some (SB.row 5 1 L.length (bG L)))], nxt := 4, dirty := [0, 1, 2, 3, 4, 5], nt := 104 }))))) (False))) := by kernel_rfl
theorem enc16 (t : Trk) (L : List Int) (K : Ex → St → Prop) : evalCode encE (keepP encR 0) 1000000 (codeAt (bodyOf encF) [1, 1, 1, 1, 1, 1, 1, 1, 1, 1, 1, 1, 1, 1, 0]) K (encS t L) =
  ((∀ (i : Nat), i < L.length → isByte (bG L i) = true) ∧ (Br (decide (L.length = L.length) && decide (L.length + (le 2 (wd (↑t.nt : Int))).length ≤ 1000000000)) ((gatesS (gateG t)) ∧ ((∀ (i : Nat), i < L.length + (le 2 (wd (↑t.nt : Int))).length → isByte (bG (rowB L.length (bG L) ++ le 2 (wd (↑t.nt : Int))) i) = true) ∧ ((L.length + (le 2 (wd (↑t.nt : Int))).length + (cat ((fun (h : Nat → List SV) (i : Nat) => gateB (px (h i)) (py (h i)) (at3 (h i)) (at4 (h i)) (at5 (h i))) (gateG t)) t.nt).length ≤ 1000000000) ∧ ((L.length + (le 2 (wd (↑t.nt : Int))).length = L.length + (le 2 (wd (↑t.nt : Int))).length) ∧ (K Ex.normal { tmps := [(82, SV.tup []), (81, SV.fn (Fn.func 28) [SV.ptr 1 0] []), (80, SV.ptr 1 0), (79, SV.ro t.nt 5 (gateG t)), (78, SV.ptr 0 11), (77, SV.ptr 1 0), (1, SV.ptr 0 0), (6, SV.ptr 1 0)], store := [(1, some (SB.cells 51 [SV.own 3 0 1 (L.length + (le 2 (wd (↑t.nt : Int))).length + (cat ((fun (h : Nat → List SV) (i : Nat) => gateB (px (h i)) (py (h i)) (at3 (h i)) (at4 (h i)) (at5 (h i))) (gateG t)) t.nt).length)])), (2, none), (3, some (SB.row 5 1 (L.length + (le 2 (wd (↑t.nt : Int))).length + (cat ((fun (h : Nat → List SV) (i : Nat) => gateB (px (h i)) (py (h i)) (at3 (h i)) (at4 (h i)) (at5 (h i))) (gateG t)) t.nt).length) (bG (rowB (L.length + (le 2 (wd (↑t.nt : Int))).length) (bG (rowB L.length (bG L) ++ le 2 (wd (↑t.nt : Int)))) ++ cat ((fun (h : Nat → List SV) (i : Nat) => gateB (px (h i)) (py (h i)) (at3 (h i)) (at4 (h i)) (at5 (h i))) (gateG t)) t.nt)))), (0, some (SB.cells 34 (trkC t))), (1, some (SB.cells 51 [SV.own 2 0 1 L.length])), (2, some (SB.row 5 1 L.length (bG L)))], nxt := 4, dirty := [0, 1, 2, 3, 4, 5], nt := 104 }))))) (False))) := by kernel_rfl
theorem enc17 (t : Trk) (L : List Int) (K : Ex → St → Prop) : evalCode encE (keepP encR 0) 1000000 (codeAt (bodyOf encF) [1, 1, 1, 1, 1, 1, 1, 1, 1, 1, 1, 1, 1, 1, 1, 0]) K (encS t L) =
  ((∀ (i : Nat), i < L.length → isByte (bG L i) = true) ∧ (Br (decide (L.length = L.length) && decide (L.length + (ptB t.sx t.sy).length ≤ 1000000000)) (K Ex.normal { tmps := [(86, SV.tup []), (85, SV.agg [SV.int .i64 t.sx, SV.int .i64 t.sy]), (84, SV.ptr 0 12), (83, SV.ptr 1 0), (1, SV.ptr 0 0), (6, SV.ptr 1 0)], store := [(1, some (SB.cells 51 [SV.own 3 0 1 (L.length + (ptB t.sx t.sy).length)])), (2, none), (3, some (SB.row 5 1 (L.length + (ptB t.sx t.sy).length) (bG (rowB L.length (bG L) ++ ptB t.sx t.sy)))), (0, some (SB.cells 34 (trkC t))), (1, some (SB.cells 51 [SV.own 2 0 1 L.length])), (2, some (SB.row 5 1 L.length (bG L)))], nxt := 4, dirty := [0, 1, 2, 3, 4, 5], nt := 104 }) (False))) := by kernel_rfl
theorem enc18 (t : Trk) (L : List Int) (K : Ex → St → Prop) : evalCode encE (keepP encR 0) 1000000 (codeAt (bodyOf encF) [1, 1, 1, 1, 1, 1, 1, 1, 1, 1, 1, 1, 1, 1, 1, 1, 0]) K (encS t L) =
  ((∀ (i : Nat), i < L.length → isByte (bG L i) = true) ∧ (Br (decide (L.length = L.length) && decide (L.length + (le 8 (wd (IntKind.i64.wrap t.head))).length ≤ 1000000000)) (K Ex.normal { tmps := [(93, SV.tup []), (92, SV.int .i64 (IntKind.i64.wrap t.head)), (91, SV.int .u32 t.head), (90, SV.ptr 0 14), (89, SV.ptr 1 0), (88, SV.ptr 1 0), (87, SV.ptr 1 0), (1, SV.ptr 0 0), (6, SV.ptr 1 0)], store := [(1, some (SB.cells 51 [SV.own 3 0 1 (L.length + (le 8 (wd (IntKind.i64.wrap t.head))).length)])), (2, none), (3, some (SB.row 5 1 (L.length + (le 8 (wd (IntKind.i64.wrap t.head))).length) (bG (rowB L.length (bG L) ++ le 8 (wd (IntKind.i64.wrap t.head)))))), (0, some (SB.cells 34 (trkC t))), (1, some (SB.cells 51 [SV.own 2 0 1 L.length])), (2, some (SB.row 5 1 L.length (bG L)))], nxt := 4, dirty := [0, 1, 2, 3, 4, 5], nt := 104 }) (False))) := by kernel_rfl
theorem enc19 (t : Trk) (L : List Int) (K : Ex → St → Prop) : evalCode encE (keepP encR 0) 1000000 (codeAt (bodyOf encF) [1, 1, 1, 1, 1, 1, 1, 1, 1, 1, 1, 1, 1, 1, 1, 1, 1, 0]) K (encS t L) =
  ((∀ (i : Nat), i < L.length → isByte (bG L i) = true) ∧ (Br (decide (L.length = L.length) && decide (L.length + (le 2 (wd t.laps)).length ≤ 1000000000)) (K Ex.normal { tmps := [(99, SV.tup []), (98, SV.int .i64 t.laps), (97, SV.ptr 0 15), (96, SV.ptr 1 0), (95, SV.ptr 1 0), (94, SV.ptr 1 0), (1, SV.ptr 0 0), (6, SV.ptr 1 0)], store := [(1, some (SB.cells 51 [SV.own 3 0 1 (L.length + (le 2 (wd t.laps)).length)])), (2, none), (3, some (SB.row 5 1 (L.length + (le 2 (wd t.laps)).length) (bG (rowB L.length (bG L) ++ le 2 (wd t.laps))))), (0, some (SB.cells 34 (trkC t))), (1, some (SB.cells 51 [SV.own 2 0 1 L.length])), (2, some (SB.row 5 1 L.length (bG L)))], nxt := 4, dirty := [0, 1, 2, 3, 4, 5], nt := 104 }) (False))) := by kernel_rfl
theorem enc20 (t : Trk) (L : List Int) (K : KC) : evalCode encE (keepP encR 0) 1000000 (codeAt (bodyOf encF) [1, 1, 1, 1, 1, 1, 1, 1, 1, 1, 1, 1, 1, 1, 1, 1, 1, 1]) (finK encE encF 0 K) (encS t L) =
  ((∀ (i : Nat), i < L.length → (bG L i).length = 1 ∧ (bG L i).all oneCell = true) ∧ (Br (decide (L.length ≤ L.length) && (decide (L.length * 1 ≤ 1099511627776) && decide (L.length < 9223372036854775808))) (Br (decide (0 < L.length)) (K (SV.tup [SV.own 0 0 1 L.length, SV.int .i64 0]) [some (SB.row 5 1 L.length (bG L))] []) (K (SV.tup [SV.arr 0 0 0 0, SV.int .i64 0]) [some (SB.cells 5 [])] [])) (False))) := by kernel_rfl
theorem enc_s6 (t : Trk) (K : Ex → St → Prop)
    (h : evalCode encE (keepP encR 0) 1000000 (codeAt (bodyOf encF) [1, 1, 1, 1, 1]) K (encS t (markB ++ le 2 (wd t.rate)))) : evalCode encE (keepP encR 0) 1000000 (codeAt (bodyOf encF) [1, 1, 1, 1]) K (encS0 t) := by
  refine seq_of (a := codeAt (bodyOf encF) [1, 1, 1, 1, 0]) (b := codeAt (bodyOf encF) [1, 1, 1, 1, 1]) (by kernel_rfl) ?_
  rw [enc6]
  refine ⟨fun i hi => ?_, cut_step (id := 7) (s' := encS t (markB ++ le 2 (wd t.rate))) ⟨_, _, _, rfl⟩ rfl (by kernel_rfl) rfl h⟩
  match i, hi with
  | 0, _ => rfl
  | 1, _ => rfl
  | 2, _ => rfl
  | 3, _ => rfl
theorem enc_s7 (t : Trk) (L : List Int) (K : Ex → St → Prop) (hl : (L ++ le 8 (wd t.cell)).length ≤ 1000000000)
    (h : evalCode encE (keepP encR 0) 1000000 (codeAt (bodyOf encF) [1, 1, 1, 1, 1, 1]) K (encS t (L ++ le 8 (wd t.cell)))) : evalCode encE (keepP encR 0) 1000000 (codeAt (bodyOf encF) [1, 1, 1, 1, 1]) K (encS t L) := by
  refine seq_of (a := codeAt (bodyOf encF) [1, 1, 1, 1, 1, 0]) (b := codeAt (bodyOf encF) [1, 1, 1, 1, 1, 1]) (by kernel_rfl) ?_
  rw [enc7]
  simp only [rowB_self, ← List.length_append]
  exact wgo (by simp [le_len, ptB] at hl ⊢; omega) (cut_step (id := 8) (s' := encS t (L ++ le 8 (wd t.cell))) ⟨_, _, _, rfl⟩ rfl (by kernel_rfl) rfl h)
theorem enc_s8 (t : Trk) (L : List Int) (K : Ex → St → Prop) (hl : (L ++ le 2 (wd t.cols)).length ≤ 1000000000)
    (h : evalCode encE (keepP encR 0) 1000000 (codeAt (bodyOf encF) [1, 1, 1, 1, 1, 1, 1]) K (encS t (L ++ le 2 (wd t.cols)))) : evalCode encE (keepP encR 0) 1000000 (codeAt (bodyOf encF) [1, 1, 1, 1, 1, 1]) K (encS t L) := by
  refine seq_of (a := codeAt (bodyOf encF) [1, 1, 1, 1, 1, 1, 0]) (b := codeAt (bodyOf encF) [1, 1, 1, 1, 1, 1, 1]) (by kernel_rfl) ?_
  rw [enc8]
  simp only [rowB_self, ← List.length_append]
  exact wgo (by simp [le_len, ptB] at hl ⊢; omega) (cut_step (id := 9) (s' := encS t (L ++ le 2 (wd t.cols))) ⟨_, _, _, rfl⟩ rfl (by kernel_rfl) rfl h)
theorem enc_s9 (t : Trk) (L : List Int) (K : Ex → St → Prop) (hl : (L ++ le 2 (wd t.rows)).length ≤ 1000000000)
    (h : evalCode encE (keepP encR 0) 1000000 (codeAt (bodyOf encF) [1, 1, 1, 1, 1, 1, 1, 1]) K (encS t (L ++ le 2 (wd t.rows)))) : evalCode encE (keepP encR 0) 1000000 (codeAt (bodyOf encF) [1, 1, 1, 1, 1, 1, 1]) K (encS t L) := by
  refine seq_of (a := codeAt (bodyOf encF) [1, 1, 1, 1, 1, 1, 1, 0]) (b := codeAt (bodyOf encF) [1, 1, 1, 1, 1, 1, 1, 1]) (by kernel_rfl) ?_
  rw [enc9]
  simp only [rowB_self, ← List.length_append]
  exact wgo (by simp [le_len, ptB] at hl ⊢; omega) (cut_step (id := 10) (s' := encS t (L ++ le 2 (wd t.rows))) ⟨_, _, _, rfl⟩ rfl (by kernel_rfl) rfl h)
theorem enc_s10 (t : Trk) (L : List Int) (K : Ex → St → Prop) (hl : (L ++ ptB t.cx t.cy).length ≤ 1000000000)
    (h : evalCode encE (keepP encR 0) 1000000 (codeAt (bodyOf encF) [1, 1, 1, 1, 1, 1, 1, 1, 1]) K (encS t (L ++ ptB t.cx t.cy))) : evalCode encE (keepP encR 0) 1000000 (codeAt (bodyOf encF) [1, 1, 1, 1, 1, 1, 1, 1]) K (encS t L) := by
  refine seq_of (a := codeAt (bodyOf encF) [1, 1, 1, 1, 1, 1, 1, 1, 0]) (b := codeAt (bodyOf encF) [1, 1, 1, 1, 1, 1, 1, 1, 1]) (by kernel_rfl) ?_
  rw [enc10]
  simp only [rowB_self, ← List.length_append]
  exact wgo (by simp [le_len, ptB] at hl ⊢; omega) (cut_step (id := 11) (s' := encS t (L ++ ptB t.cx t.cy)) ⟨_, _, _, rfl⟩ rfl (by kernel_rfl) rfl h)
theorem enc_s11 (t : Trk) (L : List Int) (K : Ex → St → Prop) (hl : (L ++ cat (fun i => le 8 (wd (t.h i))) t.nh).length ≤ 1000000000)
    (h : evalCode encE (keepP encR 0) 1000000 (codeAt (bodyOf encF) [1, 1, 1, 1, 1, 1, 1, 1, 1, 1]) K (encS t (L ++ cat (fun i => le 8 (wd (t.h i))) t.nh))) : evalCode encE (keepP encR 0) 1000000 (codeAt (bodyOf encF) [1, 1, 1, 1, 1, 1, 1, 1, 1]) K (encS t L) := by
  refine seq_of (a := codeAt (bodyOf encF) [1, 1, 1, 1, 1, 1, 1, 1, 1, 0]) (b := codeAt (bodyOf encF) [1, 1, 1, 1, 1, 1, 1, 1, 1, 1]) (by kernel_rfl) ?_
  rw [enc11]
  simp only [rowB_self, ← List.length_append]
  refine ⟨fun _ => rfl, fun _ _ => rfl, hl, ?_⟩
  first | exact ⟨rfl, cut_step (id := 12) (s' := encS t (L ++ cat (fun i => le 8 (wd (t.h i))) t.nh)) ⟨_, _, _, rfl⟩ rfl (by kernel_rfl) rfl h⟩ | exact ⟨trivial, cut_step (id := 12) (s' := encS t (L ++ cat (fun i => le 8 (wd (t.h i))) t.nh)) ⟨_, _, _, rfl⟩ rfl (by kernel_rfl) rfl h⟩
theorem enc_s12 (t : Trk) (L : List Int) (K : Ex → St → Prop) (hl : (L ++ cat (fun i => le 2 (wd (t.g i))) t.ng).length ≤ 1000000000)
    (h : evalCode encE (keepP encR 0) 1000000 (codeAt (bodyOf encF) [1, 1, 1, 1, 1, 1, 1, 1, 1, 1, 1]) K (encS t (L ++ cat (fun i => le 2 (wd (t.g i))) t.ng))) : evalCode encE (keepP encR 0) 1000000 (codeAt (bodyOf encF) [1, 1, 1, 1, 1, 1, 1, 1, 1, 1]) K (encS t L) := by
  refine seq_of (a := codeAt (bodyOf encF) [1, 1, 1, 1, 1, 1, 1, 1, 1, 1, 0]) (b := codeAt (bodyOf encF) [1, 1, 1, 1, 1, 1, 1, 1, 1, 1, 1]) (by kernel_rfl) ?_
  rw [enc12]
  simp only [rowB_self, ← List.length_append]
  refine ⟨fun _ => rfl, fun _ _ => rfl, hl, ?_⟩
  first | exact ⟨rfl, cut_step (id := 13) (s' := encS t (L ++ cat (fun i => le 2 (wd (t.g i))) t.ng)) ⟨_, _, _, rfl⟩ rfl (by kernel_rfl) rfl h⟩ | exact ⟨trivial, cut_step (id := 13) (s' := encS t (L ++ cat (fun i => le 2 (wd (t.g i))) t.ng)) ⟨_, _, _, rfl⟩ rfl (by kernel_rfl) rfl h⟩
theorem enc_s13 (t : Trk) (L : List Int) (K : Ex → St → Prop) (hl : (L ++ le 2 (wd (t.nk : Int)) ++ cat (fun i => kindB (t.kg i) (t.kd i) (t.ko i)) t.nk).length ≤ 1000000000)
    (h : evalCode encE (keepP encR 0) 1000000 (codeAt (bodyOf encF) [1, 1, 1, 1, 1, 1, 1, 1, 1, 1, 1, 1]) K (encS t (L ++ le 2 (wd (t.nk : Int)) ++ cat (fun i => kindB (t.kg i) (t.kd i) (t.ko i)) t.nk))) : evalCode encE (keepP encR 0) 1000000 (codeAt (bodyOf encF) [1, 1, 1, 1, 1, 1, 1, 1, 1, 1, 1]) K (encS t L) := by
  refine seq_of (a := codeAt (bodyOf encF) [1, 1, 1, 1, 1, 1, 1, 1, 1, 1, 1, 0]) (b := codeAt (bodyOf encF) [1, 1, 1, 1, 1, 1, 1, 1, 1, 1, 1, 1]) (by kernel_rfl) ?_
  rw [enc13]
  simp only [rowB_self, ← List.length_append]
  refine wgo (by simp [le_len] at hl ⊢; omega) ⟨fun _ => rfl, fun _ _ => rfl, hl, ?_⟩
  first | exact ⟨rfl, cut_step (id := 14) (s' := encS t (L ++ le 2 (wd (t.nk : Int)) ++ cat (fun i => kindB (t.kg i) (t.kd i) (t.ko i)) t.nk)) ⟨_, _, _, rfl⟩ rfl (by kernel_rfl) rfl h⟩ | exact ⟨trivial, cut_step (id := 14) (s' := encS t (L ++ le 2 (wd (t.nk : Int)) ++ cat (fun i => kindB (t.kg i) (t.kd i) (t.ko i)) t.nk)) ⟨_, _, _, rfl⟩ rfl (by kernel_rfl) rfl h⟩
theorem enc_s14 (t : Trk) (L : List Int) (K : Ex → St → Prop) (hl : (L ++ le 2 (wd (t.nl : Int)) ++ cat (fun i => ptB (t.lx i) (t.ly i)) t.nl).length ≤ 1000000000)
    (h : evalCode encE (keepP encR 0) 1000000 (codeAt (bodyOf encF) [1, 1, 1, 1, 1, 1, 1, 1, 1, 1, 1, 1, 1]) K (encS t (L ++ le 2 (wd (t.nl : Int)) ++ cat (fun i => ptB (t.lx i) (t.ly i)) t.nl))) : evalCode encE (keepP encR 0) 1000000 (codeAt (bodyOf encF) [1, 1, 1, 1, 1, 1, 1, 1, 1, 1, 1, 1]) K (encS t L) := by
  refine seq_of (a := codeAt (bodyOf encF) [1, 1, 1, 1, 1, 1, 1, 1, 1, 1, 1, 1, 0]) (b := codeAt (bodyOf encF) [1, 1, 1, 1, 1, 1, 1, 1, 1, 1, 1, 1, 1]) (by kernel_rfl) ?_
  rw [enc14]
  simp only [rowB_self, ← List.length_append]
  refine wgo (by simp [le_len] at hl ⊢; omega) ⟨fun _ => rfl, fun _ _ => rfl, hl, ?_⟩
  first | exact ⟨rfl, cut_step (id := 15) (s' := encS t (L ++ le 2 (wd (t.nl : Int)) ++ cat (fun i => ptB (t.lx i) (t.ly i)) t.nl)) ⟨_, _, _, rfl⟩ rfl (by kernel_rfl) rfl h⟩ | exact ⟨trivial, cut_step (id := 15) (s' := encS t (L ++ le 2 (wd (t.nl : Int)) ++ cat (fun i => ptB (t.lx i) (t.ly i)) t.nl)) ⟨_, _, _, rfl⟩ rfl (by kernel_rfl) rfl h⟩
theorem enc_s15 (t : Trk) (L : List Int) (K : Ex → St → Prop) (hl : (L ++ le 2 (wd (t.nr : Int)) ++ cat (fun i => railB (t.rn i) (t.rx i) (t.ry i)) t.nr).length ≤ 1000000000)
    (h : evalCode encE (keepP encR 0) 1000000 (codeAt (bodyOf encF) [1, 1, 1, 1, 1, 1, 1, 1, 1, 1, 1, 1, 1, 1]) K (encS t (L ++ le 2 (wd (t.nr : Int)) ++ cat (fun i => railB (t.rn i) (t.rx i) (t.ry i)) t.nr))) : evalCode encE (keepP encR 0) 1000000 (codeAt (bodyOf encF) [1, 1, 1, 1, 1, 1, 1, 1, 1, 1, 1, 1, 1]) K (encS t L) := by
  refine seq_of (a := codeAt (bodyOf encF) [1, 1, 1, 1, 1, 1, 1, 1, 1, 1, 1, 1, 1, 0]) (b := codeAt (bodyOf encF) [1, 1, 1, 1, 1, 1, 1, 1, 1, 1, 1, 1, 1, 1]) (by kernel_rfl) ?_
  rw [enc15]
  simp only [rowB_self, ← List.length_append]
  refine wgo (by simp [le_len] at hl ⊢; omega) ⟨fun _ => rfl, fun _ _ => rfl, hl, ?_⟩
  first | exact ⟨rfl, cut_step (id := 16) (s' := encS t (L ++ le 2 (wd (t.nr : Int)) ++ cat (fun i => railB (t.rn i) (t.rx i) (t.ry i)) t.nr)) ⟨_, _, _, rfl⟩ rfl (by kernel_rfl) rfl h⟩ | exact ⟨trivial, cut_step (id := 16) (s' := encS t (L ++ le 2 (wd (t.nr : Int)) ++ cat (fun i => railB (t.rn i) (t.rx i) (t.ry i)) t.nr)) ⟨_, _, _, rfl⟩ rfl (by kernel_rfl) rfl h⟩
theorem enc_s16 (t : Trk) (L : List Int) (K : Ex → St → Prop) (hl : (L ++ le 2 (wd (t.nt : Int)) ++ cat (fun i => gateB (t.ax i) (t.ay i) (t.bx i) (t.sb i) (t.sp i)) t.nt).length ≤ 1000000000)
    (h : evalCode encE (keepP encR 0) 1000000 (codeAt (bodyOf encF) [1, 1, 1, 1, 1, 1, 1, 1, 1, 1, 1, 1, 1, 1, 1]) K (encS t (L ++ le 2 (wd (t.nt : Int)) ++ cat (fun i => gateB (t.ax i) (t.ay i) (t.bx i) (t.sb i) (t.sp i)) t.nt))) : evalCode encE (keepP encR 0) 1000000 (codeAt (bodyOf encF) [1, 1, 1, 1, 1, 1, 1, 1, 1, 1, 1, 1, 1, 1]) K (encS t L) := by
  refine seq_of (a := codeAt (bodyOf encF) [1, 1, 1, 1, 1, 1, 1, 1, 1, 1, 1, 1, 1, 1, 0]) (b := codeAt (bodyOf encF) [1, 1, 1, 1, 1, 1, 1, 1, 1, 1, 1, 1, 1, 1, 1]) (by kernel_rfl) ?_
  rw [enc16]
  simp only [rowB_self, ← List.length_append]
  refine wgo (by simp [le_len] at hl ⊢; omega) ⟨fun _ => rfl, fun _ _ => rfl, hl, ?_⟩
  first | exact ⟨rfl, cut_step (id := 17) (s' := encS t (L ++ le 2 (wd (t.nt : Int)) ++ cat (fun i => gateB (t.ax i) (t.ay i) (t.bx i) (t.sb i) (t.sp i)) t.nt)) ⟨_, _, _, rfl⟩ rfl (by kernel_rfl) rfl h⟩ | exact ⟨trivial, cut_step (id := 17) (s' := encS t (L ++ le 2 (wd (t.nt : Int)) ++ cat (fun i => gateB (t.ax i) (t.ay i) (t.bx i) (t.sb i) (t.sp i)) t.nt)) ⟨_, _, _, rfl⟩ rfl (by kernel_rfl) rfl h⟩
theorem enc_s17 (t : Trk) (L : List Int) (K : Ex → St → Prop) (hl : (L ++ ptB t.sx t.sy).length ≤ 1000000000)
    (h : evalCode encE (keepP encR 0) 1000000 (codeAt (bodyOf encF) [1, 1, 1, 1, 1, 1, 1, 1, 1, 1, 1, 1, 1, 1, 1, 1]) K (encS t (L ++ ptB t.sx t.sy))) : evalCode encE (keepP encR 0) 1000000 (codeAt (bodyOf encF) [1, 1, 1, 1, 1, 1, 1, 1, 1, 1, 1, 1, 1, 1, 1]) K (encS t L) := by
  refine seq_of (a := codeAt (bodyOf encF) [1, 1, 1, 1, 1, 1, 1, 1, 1, 1, 1, 1, 1, 1, 1, 0]) (b := codeAt (bodyOf encF) [1, 1, 1, 1, 1, 1, 1, 1, 1, 1, 1, 1, 1, 1, 1, 1]) (by kernel_rfl) ?_
  rw [enc17]
  simp only [rowB_self, ← List.length_append]
  exact wgo (by simp [le_len, ptB] at hl ⊢; omega) (cut_step (id := 18) (s' := encS t (L ++ ptB t.sx t.sy)) ⟨_, _, _, rfl⟩ rfl (by kernel_rfl) rfl h)
theorem enc_s18 (t : Trk) (L : List Int) (K : Ex → St → Prop) (hl : (L ++ le 8 (wd (IntKind.i64.wrap t.head))).length ≤ 1000000000)
    (h : evalCode encE (keepP encR 0) 1000000 (codeAt (bodyOf encF) [1, 1, 1, 1, 1, 1, 1, 1, 1, 1, 1, 1, 1, 1, 1, 1, 1]) K (encS t (L ++ le 8 (wd (IntKind.i64.wrap t.head))))) : evalCode encE (keepP encR 0) 1000000 (codeAt (bodyOf encF) [1, 1, 1, 1, 1, 1, 1, 1, 1, 1, 1, 1, 1, 1, 1, 1]) K (encS t L) := by
  refine seq_of (a := codeAt (bodyOf encF) [1, 1, 1, 1, 1, 1, 1, 1, 1, 1, 1, 1, 1, 1, 1, 1, 0]) (b := codeAt (bodyOf encF) [1, 1, 1, 1, 1, 1, 1, 1, 1, 1, 1, 1, 1, 1, 1, 1, 1]) (by kernel_rfl) ?_
  rw [enc18]
  simp only [rowB_self, ← List.length_append]
  exact wgo (by simp [le_len, ptB] at hl ⊢; omega) (cut_step (id := 19) (s' := encS t (L ++ le 8 (wd (IntKind.i64.wrap t.head)))) ⟨_, _, _, rfl⟩ rfl (by kernel_rfl) rfl h)
theorem enc_s19 (t : Trk) (L : List Int) (K : Ex → St → Prop) (hl : (L ++ le 2 (wd t.laps)).length ≤ 1000000000)
    (h : evalCode encE (keepP encR 0) 1000000 (codeAt (bodyOf encF) [1, 1, 1, 1, 1, 1, 1, 1, 1, 1, 1, 1, 1, 1, 1, 1, 1, 1]) K (encS t (L ++ le 2 (wd t.laps)))) : evalCode encE (keepP encR 0) 1000000 (codeAt (bodyOf encF) [1, 1, 1, 1, 1, 1, 1, 1, 1, 1, 1, 1, 1, 1, 1, 1, 1]) K (encS t L) := by
  refine seq_of (a := codeAt (bodyOf encF) [1, 1, 1, 1, 1, 1, 1, 1, 1, 1, 1, 1, 1, 1, 1, 1, 1, 0]) (b := codeAt (bodyOf encF) [1, 1, 1, 1, 1, 1, 1, 1, 1, 1, 1, 1, 1, 1, 1, 1, 1, 1]) (by kernel_rfl) ?_
  rw [enc19]
  simp only [rowB_self, ← List.length_append]
  exact wgo (by simp [le_len, ptB] at hl ⊢; omega) (cut_step (id := 20) (s' := encS t (L ++ le 2 (wd t.laps))) ⟨_, _, _, rfl⟩ rfl (by kernel_rfl) rfl h)
def encBy (t : Trk) : List Int := markB ++ le 2 (wd t.rate) ++ le 8 (wd t.cell) ++ le 2 (wd t.cols) ++ le 2 (wd t.rows) ++ ptB t.cx t.cy ++ cat (fun i => le 8 (wd (t.h i))) t.nh ++ cat (fun i => le 2 (wd (t.g i))) t.ng ++ le 2 (wd (t.nk : Int)) ++ cat (fun i => kindB (t.kg i) (t.kd i) (t.ko i)) t.nk ++ le 2 (wd (t.nl : Int)) ++ cat (fun i => ptB (t.lx i) (t.ly i)) t.nl ++ le 2 (wd (t.nr : Int)) ++ cat (fun i => railB (t.rn i) (t.rx i) (t.ry i)) t.nr ++ le 2 (wd (t.nt : Int)) ++ cat (fun i => gateB (t.ax i) (t.ay i) (t.bx i) (t.sb i) (t.sp i)) t.nt ++ ptB t.sx t.sy ++ le 8 (wd (IntKind.i64.wrap t.head)) ++ le 2 (wd t.laps)
noncomputable abbrev runE (K : KC) (t : Trk) : Prop := calls (tab.env w6 (fun _ => 0) encCut) (keepP encR) w6.dom 4 8 [.agg (trkC t)] [] K
theorem enc_top (t : Trk) (K : KC) : runE K t = evalCode encE (keepP encR 0) 1000000 (bodyOf encF) (finK encE encF 0 K) ⟨params [.agg (trkC t)] 0, stores [] 0, 0, [], 104⟩ := by kernel_rfl
theorem enc_body : bodyOf encF = .seq (codeAt (bodyOf encF) [0]) (.seq (codeAt (bodyOf encF) [1, 0]) (.seq (codeAt (bodyOf encF) [1, 1, 0]) (.seq (codeAt (bodyOf encF) [1, 1, 1, 0]) (codeAt (bodyOf encF) [1, 1, 1, 1])))) := by kernel_rfl
theorem seq4 {env : Env} {W : Nat → St → Option St} {blk : Nat} {a b c d T : Code} {K : Ex → St → Prop} {s : St} (h : evalCode env W blk (.seq a (.seq b (.seq c d))) (fun e s => match e with
    | .normal => evalCode env W blk T K s
    | e => K e s) s) : evalCode env W blk (.seq a (.seq b (.seq c (.seq d T)))) K s := by
  rw [evalCode_assoc, evalCode_assoc, evalCode_assoc]
  have : evalCode env W blk (.seq (.seq (.seq a b) c) d) (fun e s => match e with
    | .normal => evalCode env W blk T K s
    | e => K e s) s := by rw [← evalCode_assoc, ← evalCode_assoc]; exact h
  exact this
theorem enc_law (t : Trk) (hs : smallR t) (hl : (encBy t).length ≤ 1000000000) (K : KC)
    (hK : bif (rightV t).1 != 0 then K (.tup [.nils, .int .i64 (rightV t).1]) [] [] else K (.tup [.own 0 0 1 (encBy t).length, .int .i64 0]) [some (.row 5 1 (encBy t).length (bG (encBy t)))] []) : runE K t := by
  rw [enc_top, enc_body]
  refine seq4 ?_
  show evalCode encE (keepP encR 0) 1000000 encA _ _
  rw [enc_start]
  refine ⟨trkS_of t, hs, Br.of (fun c => ?_) fun c => ?_⟩
  · rw [c] at hK
    simp only [cond_true] at hK
    refine Eq.mpr (β := K (.tup [.nils, .int .i64 (rightV t).1]) [] []) ?_ hK
    kernel_rfl
  · rw [c] at hK
    simp only [cond_false] at hK
    refine cut_step (id := 6) (s' := encS0 t) ⟨_, _, _, rfl⟩ rfl (by kernel_rfl) rfl (enc_s6 t _ ?_)
    have hb : ∀ M : List Int, M.length ≤ (encBy t).length → M.length ≤ 1000000000 := fun M h => Nat.le_trans h hl
    refine enc_s7 t _ _ (hb _ (by unfold encBy; simp only [List.length_append]; omega)) ?_
    refine enc_s8 t _ _ (hb _ (by unfold encBy; simp only [List.length_append]; omega)) ?_
    refine enc_s9 t _ _ (hb _ (by unfold encBy; simp only [List.length_append]; omega)) ?_
    refine enc_s10 t _ _ (hb _ (by unfold encBy; simp only [List.length_append]; omega)) ?_
    refine enc_s11 t _ _ (hb _ (by unfold encBy; simp only [List.length_append]; omega)) ?_
    refine enc_s12 t _ _ (hb _ (by unfold encBy; simp only [List.length_append]; omega)) ?_
    refine enc_s13 t _ _ (hb _ (by unfold encBy; simp only [List.length_append]; omega)) ?_
    refine enc_s14 t _ _ (hb _ (by unfold encBy; simp only [List.length_append]; omega)) ?_
    refine enc_s15 t _ _ (hb _ (by unfold encBy; simp only [List.length_append]; omega)) ?_
    refine enc_s16 t _ _ (hb _ (by unfold encBy; simp only [List.length_append]; omega)) ?_
    refine enc_s17 t _ _ (hb _ (by unfold encBy; simp only [List.length_append]; omega)) ?_
    refine enc_s18 t _ _ (hb _ (by unfold encBy; simp only [List.length_append]; omega)) ?_
    refine enc_s19 t _ _ (hb _ (by unfold encBy; simp only [List.length_append]; omega)) ?_
    change evalCode encE (keepP encR 0) 1000000 _ _ (encS t (encBy t))
    rw [enc20]
    have hpos : 0 < (encBy t).length := by
      have : markB.length = 4 := rfl
      unfold encBy; simp only [List.length_append]; omega
    generalize encBy t = L at hK hl hpos ⊢
    refine ⟨fun _ _ => ⟨rfl, rfl⟩, Br.of (fun _ => Br.of (fun _ => hK) fun c => ?_) fun c => ?_⟩
    · have := of_decide_eq_false c; omega
    · simp only [Nat.le_refl, decide_true, Bool.true_and, Nat.mul_one, Bool.and_eq_false_iff, decide_eq_false_iff_not] at c
      omega
end Go.Proofs.YtbedljhbakdghaaGreatDoor
