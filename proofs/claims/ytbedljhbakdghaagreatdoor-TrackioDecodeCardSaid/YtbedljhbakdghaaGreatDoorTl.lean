import Derived.Test.YtbedljhbakdghaaGreatDoorTk
namespace Go.Proofs.YtbedljhbakdghaaGreatDoor
open Go.Se
set_option maxRecDepth 100000
def rwR : List (Nat × Keep) := [(0, ⟨[1, 2, 3, 4], [0], [1, 2, 3, 4], 1, []⟩), (2, ⟨[1, 2, 3, 6], [0], [1, 2, 3, 4], 1, []⟩)]
def rwS (t : Trk) (c a i : Int) : St := ⟨[(1, .ptr 0 0), (2, .int .i64 c), (3, .int .i64 a), (4, .int .i64 i)], [(0, some (.cells 34 (trkC t)))], 1, [1, 2, 3, 4], 56⟩
def rwT (t : Trk) (c a i : Int) : St := ⟨[(1, .ptr 0 0), (2, .int .i64 c), (3, .int .i64 a), (6, .int .i64 i)], [(0, some (.cells 34 (trkC t)))], 1, [1, 2, 3, 4], 56⟩
noncomputable abbrev rwE : Env := envL rwR (fun _ => 0) s4 1
noncomputable abbrev rwF : Func := Tryz.f79
theorem rw_entry (t : Trk) (K : KC) : runL rwR (fun _ => 0) s4 2 79 [.agg (trkC t)] [] K =
  (Br (decide ((↑t.nr : Int) > 16)) (K (SV.tup [SV.int .i64 42, SV.int .i64 0]) [] []) (∃ q_, loopE rwE (keepW rwR 0) rwF [1, 1, 0, 1, 0] 0 0 K q_ { tmps := [(1, SV.ptr 0 0), (2, SV.int .i64 0), (3, SV.int .i64 0), (4, SV.int .i64 0)], store := [(0, some (SB.cells 34 (trkC t)))], nxt := 1, dirty := [1, 2, 3, 4], nt := 56 })) := by kernel_rfl
theorem rw_round (t : Trk) (i : Nat) (K : Ex → St → Prop) : roundE rwE (keepW rwR 0) rwF [1, 1, 0, 1, 0] 0 K (rwS t 0 0 i) =
  (Br (decide ((↑i : Int) < (↑t.nr : Int))) (Br (decide (0 ≤ (↑i : Int)) && decide ((↑i : Int) < (↑t.nr : Int))) ((pts (ptsG (t.rx (↑i : Int).toNat) (t.ry (↑i : Int).toNat))) ∧ (Br ((railW (t.rn (↑i : Int).toNat) (fun (i_1 : Nat) => px (ptsG (t.rx (↑i : Int).toNat) (t.ry (↑i : Int).toNat) i_1)) fun (i_1 : Nat) => py (ptsG (t.rx (↑i : Int).toNat) (t.ry (↑i : Int).toNat) i_1)) != 0) (K Ex.ret { tmps := [(1, SV.ptr 0 0), (2, SV.int .i64 (railW (t.rn (↑i : Int).toNat) (fun (i_1 : Nat) => px (ptsG (t.rx (↑i : Int).toNat) (t.ry (↑i : Int).toNat) i_1)) fun (i_1 : Nat) => py (ptsG (t.rx (↑i : Int).toNat) (t.ry (↑i : Int).toNat) i_1))), (3, SV.int .i64 (↑i : Int)), (4, SV.int .i64 (↑i : Int))], store := [(0, some (SB.cells 34 (trkC t)))], nxt := 1, dirty := [1, 2, 3, 4], nt := 56 }) (K Ex.normal { tmps := [(1, SV.ptr 0 0), (2, SV.int .i64 0), (3, SV.int .i64 0), (4, SV.int .i64 (IntKind.i64.wrap ((↑i : Int) + 1)))], store := [(0, some (SB.cells 34 (trkC t)))], nxt := 1, dirty := [1, 2, 3, 4], nt := 56 }))) (False)) (K (Ex.exit 0) { tmps := [(1, SV.ptr 0 0), (2, SV.int .i64 0), (3, SV.int .i64 0), (4, SV.int .i64 (↑i : Int))], store := [(0, some (SB.cells 34 (trkC t)))], nxt := 1, dirty := [1, 2, 3, 4], nt := 56 })) := by kernel_rfl
theorem rw_ret (t : Trk) (c a i : Int) (K : KC) : afterE rwE (keepW rwR 0) rwF [1, 1, 0, 1, 0] 0 K .ret (rwS t c a i) =
  (K (SV.tup [SV.int .i64 c, SV.int .i64 a]) [] []) := by kernel_rfl
theorem rw_after (t : Trk) (i : Int) (K : KC) : afterE rwE (keepW rwR 0) rwF [1, 1, 0, 1, 0] 0 K (.exit 0) (rwS t 0 0 i) =
  (Br (decide ((↑t.nt : Int) < 1)) (K (SV.tup [SV.int .i64 42, SV.int .i64 0]) [] []) (Br (decide ((↑t.nt : Int) > 16)) (K (SV.tup [SV.int .i64 42, SV.int .i64 0]) [] []) (∃ q_, loopE rwE (keepW rwR 0) rwF [1, 1, 1, 1, 0, 1, 0] 2 0 K q_ { tmps := [(1, SV.ptr 0 0), (2, SV.int .i64 0), (3, SV.int .i64 0), (6, SV.int .i64 0)], store := [(0, some (SB.cells 34 (trkC t)))], nxt := 1, dirty := [1, 2, 3, 4], nt := 56 }))) := by kernel_rfl
theorem rw_round2 (t : Trk) (i : Nat) (K : Ex → St → Prop) : roundE rwE (keepW rwR 0) rwF [1, 1, 1, 1, 0, 1, 0] 2 K (rwT t 0 0 i) =
  (Br (decide ((↑i : Int) < (↑t.nt : Int))) (Br (decide (0 ≤ (↑i : Int)) && decide ((↑i : Int) < (↑t.nt : Int))) (Br (gateW (t.ax (↑i : Int).toNat) (t.ay (↑i : Int).toNat) (t.bx (↑i : Int).toNat) (t.sb (↑i : Int).toNat) != 0) (K Ex.ret { tmps := [(1, SV.ptr 0 0), (2, SV.int .i64 (gateW (t.ax (↑i : Int).toNat) (t.ay (↑i : Int).toNat) (t.bx (↑i : Int).toNat) (t.sb (↑i : Int).toNat))), (3, SV.int .i64 (↑i : Int)), (6, SV.int .i64 (↑i : Int))], store := [(0, some (SB.cells 34 (trkC t)))], nxt := 1, dirty := [1, 2, 3, 4], nt := 56 }) (K Ex.normal { tmps := [(1, SV.ptr 0 0), (2, SV.int .i64 0), (3, SV.int .i64 0), (6, SV.int .i64 (IntKind.i64.wrap ((↑i : Int) + 1)))], store := [(0, some (SB.cells 34 (trkC t)))], nxt := 1, dirty := [1, 2, 3, 4], nt := 56 })) (False)) (K (Ex.exit 2) { tmps := [(1, SV.ptr 0 0), (2, SV.int .i64 0), (3, SV.int .i64 0), (6, SV.int .i64 (↑i : Int))], store := [(0, some (SB.cells 34 (trkC t)))], nxt := 1, dirty := [1, 2, 3, 4], nt := 56 })) := by kernel_rfl
theorem rw_ret2 (t : Trk) (c a i : Int) (K : KC) : afterE rwE (keepW rwR 0) rwF [1, 1, 1, 1, 0, 1, 0] 0 K .ret (rwT t c a i) =
  (K (SV.tup [SV.int .i64 c, SV.int .i64 a]) [] []) := by kernel_rfl
theorem rw_after2 (t : Trk) (i : Int) (K : KC) : afterE rwE (keepW rwR 0) rwF [1, 1, 1, 1, 0, 1, 0] 0 K (.exit 2) (rwT t 0 0 i) =
  (K (SV.tup [SV.int .i64 0, SV.int .i64 0]) [] []) := by kernel_rfl
def rbR : List (Nat × Keep) := [(0, ⟨[1, 3, 4], [0, 1], [1, 2, 3, 4, 5], 2, [(3, 1)]⟩), (2, ⟨[1, 3, 4, 5], [0, 1], [1, 2, 3, 4, 5], 2, [(3, 1)]⟩)]
def rbS (t : Trk) (o : SV) (b : Option SB) (i : Int) : St := ⟨[(1, .ptr 0 0), (3, o), (4, .int .i64 i)], [(0, some (.cells 34 (trkC t))), (1, b)], 2, [1, 2, 3, 4, 5], 46⟩
def rbT (t : Trk) (o : SV) (b : Option SB) (i k : Int) : St := ⟨[(1, .ptr 0 0), (3, o), (4, .int .i64 i), (5, .int .i64 k)], [(0, some (.cells 34 (trkC t))), (1, b)], 2, [1, 2, 3, 4, 5], 46⟩
noncomputable abbrev rbE : Env := envL rbR (fun _ => 0) s4 1
noncomputable abbrev rbF : Func := Tryz.f80
abbrev rbP : List Nat := [1, 1, 0, 1, 0]
abbrev rbI : List Nat := [1, 0, 0, 1, 0]
theorem rb_entry (t : Trk) (K : KC) : runL rbR (fun _ => 0) s4 2 80 [.agg (trkC t)] [] K =
  (∃ q_, loopE rbE (keepW rbR 0) rbF rbP 0 0 K q_ { tmps := [(1, SV.ptr 0 0), (3, SV.nils), (4, SV.int .i64 0)], store := [(0, some (SB.cells 34 (trkC t))), (1, none)], nxt := 2, dirty := [1, 2, 3, 4, 5], nt := 46 }) := by kernel_rfl
theorem rb_round0 (t : Trk) (i : Nat) (K : Ex → St → Prop) : roundE rbE (keepW rbR 0) rbF rbP 0 K (rbS t .nils none i) =
  (Br (decide ((↑i : Int) < (↑t.nr : Int))) (∃ q_, iter (roundE rbE (keepW rbR 0) rbF (rbP ++ [0] ++ rbI) 2) (nestK rbE (keepW rbR 0) rbF rbP 0 rbI K) q_ { tmps := [(1, SV.ptr 0 0), (3, SV.nils), (4, SV.int .i64 (↑i : Int)), (5, SV.int .i64 1)], store := [(0, some (SB.cells 34 (trkC t))), (1, none)], nxt := 2, dirty := [1, 2, 3, 4, 5], nt := 46 }) (K (Ex.exit 0) { tmps := [(1, SV.ptr 0 0), (3, SV.nils), (4, SV.int .i64 (↑i : Int))], store := [(0, some (SB.cells 34 (trkC t))), (1, none)], nxt := 2, dirty := [1, 2, 3, 4, 5], nt := 46 })) := by kernel_rfl
theorem rb_round1 (t : Trk) (m : Nat) (g : Nat → List SV) (i : Nat) (K : Ex → St → Prop) : roundE rbE (keepW rbR 0) rbF rbP 0 K (rbS t (.own 1 0 5 m) (some (.row 132 5 m g)) i) =
  (Br (decide ((↑i : Int) < (↑t.nr : Int))) (∃ q_, iter (roundE rbE (keepW rbR 0) rbF (rbP ++ [0] ++ rbI) 2) (nestK rbE (keepW rbR 0) rbF rbP 0 rbI K) q_ { tmps := [(1, SV.ptr 0 0), (3, SV.own 1 0 5 m), (4, SV.int .i64 (↑i : Int)), (5, SV.int .i64 1)], store := [(0, some (SB.cells 34 (trkC t))), (1, some (SB.row 132 5 m g))], nxt := 2, dirty := [1, 2, 3, 4, 5], nt := 46 }) (K (Ex.exit 0) { tmps := [(1, SV.ptr 0 0), (3, SV.own 1 0 5 m), (4, SV.int .i64 (↑i : Int))], store := [(0, some (SB.cells 34 (trkC t))), (1, some (SB.row 132 5 m g))], nxt := 2, dirty := [1, 2, 3, 4, 5], nt := 46 })) := by kernel_rfl
theorem rb_in0 (t : Trk) (i k : Nat) (K : Ex → St → Prop) : roundE rbE (keepW rbR 0) rbF (rbP ++ [0] ++ rbI) 2 K (rbT t .nils none i k) =
  (Br (decide (0 ≤ (↑i : Int)) && decide ((↑i : Int) < (↑t.nr : Int))) (Br (decide ((↑k : Int) < (↑(t.rn (↑i : Int).toNat) : Int))) (Br (decide (0 ≤ (↑i : Int)) && decide ((↑i : Int) < (↑t.nr : Int))) (Br (decide (0 ≤ IntKind.i64.wrap ((↑k : Int) - 1)) && decide (IntKind.i64.wrap ((↑k : Int) - 1) < (↑(t.rn (↑i : Int).toNat) : Int))) (Br (decide (0 ≤ (↑i : Int)) && decide ((↑i : Int) < (↑t.nr : Int))) (Br (decide (0 ≤ (↑k : Int)) && decide ((↑k : Int) < (↑(t.rn (↑i : Int).toNat) : Int))) (K Ex.normal { tmps := [(1, SV.ptr 0 0), (3, SV.own 1 0 5 1), (4, SV.int .i64 (↑i : Int)), (5, SV.int .i64 (IntKind.i64.wrap ((↑k : Int) + 1)))], store := [(0, some (SB.cells 34 (trkC t))), (1, some (SB.row 132 5 1 fun (i_1 : Nat) => cut [SV.int .i64 (t.rx (↑i : Int).toNat (IntKind.i64.wrap ((↑k : Int) - 1)).toNat), SV.int .i64 (t.ry (↑i : Int).toNat (IntKind.i64.wrap ((↑k : Int) - 1)).toNat), SV.int .i64 (t.rx (↑i : Int).toNat (↑k : Int).toNat), SV.int .i64 (t.ry (↑i : Int).toNat (↑k : Int).toNat), SV.int .i64 (↑i : Int)] (i_1 * 5) 5))], nxt := 2, dirty := [1, 2, 3, 4, 5], nt := 46 }) (False)) (False)) (False)) (False)) (K (Ex.exit 2) { tmps := [(1, SV.ptr 0 0), (3, SV.nils), (4, SV.int .i64 (↑i : Int)), (5, SV.int .i64 (↑k : Int))], store := [(0, some (SB.cells 34 (trkC t))), (1, none)], nxt := 2, dirty := [1, 2, 3, 4, 5], nt := 46 })) (False)) := by kernel_rfl
theorem rb_in1 (t : Trk) (m : Nat) (g : Nat → List SV) (i k : Nat) (K : Ex → St → Prop) : roundE rbE (keepW rbR 0) rbF (rbP ++ [0] ++ rbI) 2 K (rbT t (.own 1 0 5 m) (some (.row 132 5 m g)) i k) =
  (Br (decide (0 ≤ (↑i : Int)) && decide ((↑i : Int) < (↑t.nr : Int))) (Br (decide ((↑k : Int) < (↑(t.rn (↑i : Int).toNat) : Int))) (Br (decide (0 ≤ (↑i : Int)) && decide ((↑i : Int) < (↑t.nr : Int))) (Br (decide (0 ≤ IntKind.i64.wrap ((↑k : Int) - 1)) && decide (IntKind.i64.wrap ((↑k : Int) - 1) < (↑(t.rn (↑i : Int).toNat) : Int))) (Br (decide (0 ≤ (↑i : Int)) && decide ((↑i : Int) < (↑t.nr : Int))) (Br (decide (0 ≤ (↑k : Int)) && decide ((↑k : Int) < (↑(t.rn (↑i : Int).toNat) : Int))) (Br (decide ((m + 1) * 40 ≤ 1099511627776) && decide (m + 1 < 9223372036854775808) && decide (m = m)) (K Ex.normal { tmps := [(1, SV.ptr 0 0), (3, SV.own 1 0 5 (m + 1)), (4, SV.int .i64 (↑i : Int)), (5, SV.int .i64 (IntKind.i64.wrap ((↑k : Int) + 1)))], store := [(0, some (SB.cells 34 (trkC t))), (1, some (SB.row 132 5 (m + 1) (rowPut m [SV.int .i64 (t.rx (↑i : Int).toNat (IntKind.i64.wrap ((↑k : Int) - 1)).toNat), SV.int .i64 (t.ry (↑i : Int).toNat (IntKind.i64.wrap ((↑k : Int) - 1)).toNat), SV.int .i64 (t.rx (↑i : Int).toNat (↑k : Int).toNat), SV.int .i64 (t.ry (↑i : Int).toNat (↑k : Int).toNat), SV.int .i64 (↑i : Int)] g)))], nxt := 2, dirty := [1, 2, 3, 4, 5], nt := 46 }) (False)) (False)) (False)) (False)) (False)) (K (Ex.exit 2) { tmps := [(1, SV.ptr 0 0), (3, SV.own 1 0 5 m), (4, SV.int .i64 (↑i : Int)), (5, SV.int .i64 (↑k : Int))], store := [(0, some (SB.cells 34 (trkC t))), (1, some (SB.row 132 5 m g))], nxt := 2, dirty := [1, 2, 3, 4, 5], nt := 46 })) (False)) := by kernel_rfl
theorem rb_nest0 (t : Trk) (i k : Nat) (K : Ex → St → Prop) : nestK rbE (keepW rbR 0) rbF rbP 0 rbI K (.exit 2) (rbT t .nils none i k) =
  (K Ex.normal { tmps := [(1, SV.ptr 0 0), (3, SV.nils), (4, SV.int .i64 (IntKind.i64.wrap ((↑i : Int) + 1)))], store := [(0, some (SB.cells 34 (trkC t))), (1, none)], nxt := 2, dirty := [1, 2, 3, 4, 5], nt := 46 }) := by kernel_rfl
theorem rb_nest1 (t : Trk) (m : Nat) (g : Nat → List SV) (i k : Nat) (K : Ex → St → Prop) : nestK rbE (keepW rbR 0) rbF rbP 0 rbI K (.exit 2) (rbT t (.own 1 0 5 m) (some (.row 132 5 m g)) i k) =
  (K Ex.normal { tmps := [(1, SV.ptr 0 0), (3, SV.own 1 0 5 m), (4, SV.int .i64 (IntKind.i64.wrap ((↑i : Int) + 1)))], store := [(0, some (SB.cells 34 (trkC t))), (1, some (SB.row 132 5 m g))], nxt := 2, dirty := [1, 2, 3, 4, 5], nt := 46 }) := by kernel_rfl
theorem rb_after0 (t : Trk) (i : Nat) (K : KC) : afterE rbE (keepW rbR 0) rbF rbP 0 K (.exit 0) (rbS t .nils none i) =
  (K SV.nils [] []) := by kernel_rfl
theorem rb_after1 (t : Trk) (m : Nat) (g : Nat → List SV) (i : Nat) (K : KC) : afterE rbE (keepW rbR 0) rbF rbP 0 K (.exit 0) (rbS t (.own 1 0 5 m) (some (.row 132 5 m g)) i) =
  (K (SV.own 0 0 5 m) [some (SB.row 132 5 m g)] []) := by kernel_rfl
def tupK (c : Int × Int) (K : KC) : Prop := K (.tup [.int .i64 c.1, .int .i64 c.2]) [] []
def waysV (t : Trk) : Int × Int := orV (railsV t) (gatesV t)
theorem fst_found {c : Nat → Int} {n i : Nat} (hi : i < n) (h : c i ≠ 0) (hl : ∀ j, j < i → c j = 0) : fstW c n 0 = (c i, (i : Int)) := by
  have : ∀ k, k ≤ i → fstW c (n - k) k = fstW c n 0 := by
    intro k
    induction k with
    | zero => intro _; rw [Nat.sub_zero]
    | succ k ih => intro hk; rw [← ih (by omega)]; exact (fst_miss (by omega) (hl k (by omega))).symm
  rw [← this i (Nat.le_refl _), fst_hit hi rfl (bne_iff_ne.2 h)]
theorem fst_none {c : Nat → Int} {n : Nat} (hl : ∀ j, j < n → c j = 0) : fstW c n 0 = (0, 0) := by
  have : ∀ k, k ≤ n → fstW c (n - k) k = fstW c n 0 := by
    intro k
    induction k with
    | zero => intro _; rw [Nat.sub_zero]
    | succ k ih => intro hk; rw [← ih (by omega)]; exact (fst_miss (by omega) (hl k (by omega))).symm
  rw [← this n (Nat.le_refl _), Nat.sub_self]; rfl
theorem rw_law (t : Trk) (h1 : t.nr < 9223372036854775808) (h2 : t.nt < 9223372036854775808) (K : KC) (hK : tupK (waysV t) K) : runL rwR (fun _ => 0) s4 2 79 [.agg (trkC t)] [] K := by
  rw [rw_entry]
  unfold tupK waysV orV railsV at hK
  refine Br.of (fun c => ?_) fun c => ?_
  · rw [c] at hK; exact hK
  rw [c] at hK
  simp only [cond_false] at hK
  refine scan_loop (fun i : Nat => rwS t 0 0 i) t.nr (fun i => railV t i != 0) (fun i => afterE rwE (keepW rwR 0) rwF [1, 1, 0, 1, 0] 0 K .ret (rwS t (railV t i) i i)) (afterE rwE (keepW rwR 0) rwF [1, 1, 0, 1, 0] 0 K (.exit 0) (rwS t 0 0 t.nr)) (fun i hi Z h1 h2 => ?_) (fun Z h => ?_) (fun i hi h hl => ?_) (fun h => ?_)
  · rw [rw_round, wi64_succ hi (by omega)]
    simp only [Int.toNat_natCast]
    exact Br.of (fun _ => Br.of (fun _ => ⟨fun _ => rfl, Br.of (fun c => h1 c) fun c => h2 c⟩) fun c => in_f hi c) fun c => lt_f hi c
  · rw [rw_round]
    exact Br.of (fun c => lt_t c) fun _ => h
  · show afterE _ _ _ _ _ _ _ _
    rw [rw_ret]
    rw [fst_found hi (bne_iff_ne.1 h) (fun j hj => bne_1 (hl j hj))] at hK
    simp only [h, cond_true] at hK
    exact hK
  · rw [rw_after]
    rw [fst_none fun j hj => bne_1 (h j hj)] at hK
    simp only [bne_self_eq_false, cond_false] at hK
    unfold gatesV at hK
    refine Br.of (fun c => ?_) fun c => Br.of (fun c2 => ?_) fun c2 => ?_
    · rw [show decide ((1 : Int) ≤ t.nt) = false from decide_eq_false (by have := of_decide_eq_true c; omega)] at hK; exact hK
    · rw [show decide ((t.nt : Int) ≤ 16) = false from decide_eq_false (by have := of_decide_eq_true c2; omega), Bool.and_false] at hK; exact hK
    · rw [show decide ((1 : Int) ≤ t.nt) = true from decide_eq_true (by have := of_decide_eq_false c; omega), show decide ((t.nt : Int) ≤ 16) = true from decide_eq_true (by have := of_decide_eq_false c2; omega)] at hK
      simp only [Bool.and_self, Bool.not_true, cond_false] at hK
      refine scan_loop (fun i : Nat => rwT t 0 0 i) t.nt (fun i => gateV t i != 0) (fun i => afterE rwE (keepW rwR 0) rwF [1, 1, 1, 1, 0, 1, 0] 0 K .ret (rwT t (gateV t i) i i)) (afterE rwE (keepW rwR 0) rwF [1, 1, 1, 1, 0, 1, 0] 0 K (.exit 2) (rwT t 0 0 t.nt)) (fun i hi Z h1 h2 => ?_) (fun Z h => ?_) (fun i hi h hl => ?_) (fun h => ?_)
      · rw [rw_round2, wi64_succ hi (by omega)]
        simp only [Int.toNat_natCast]
        exact Br.of (fun _ => Br.of (fun _ => Br.of (fun c => h1 c) fun c => h2 c) fun c => in_f hi c) fun c => lt_f hi c
      · rw [rw_round2]
        exact Br.of (fun c => lt_t c) fun _ => h
      · show afterE _ _ _ _ _ _ _ _
        rw [rw_ret2]
        rw [fst_found hi (bne_iff_ne.1 h) (fun j hj => bne_1 (hl j hj))] at hK
        exact hK
      · rw [rw_after2]
        rw [fst_none fun j hj => bne_1 (h j hj)] at hK
        exact hK
theorem rb_inner (t : Trk) (i n : Nat) (L0 : List Bar) (hi : i < t.nr) (hi2 : t.nr ≤ 20) (hr : t.rn i ≤ 100) (hn : n = t.rn i - 1) (hL : L0.length ≤ 2000) (K : Ex → St → Prop)
    (hK : ∀ o b, tellsL barT 5 1 bsv (L0 ++ barsN t i n) o b → K .normal (rbS t o b (i + 1 : Nat))) :
    ∀ (f : Nat) (a : Nat × SV × Option SB), (a.1 ≤ n ∧ tellsL barT 5 1 bsv (L0 ++ barsN t i a.1) a.2.1 a.2.2) → n - a.1 < f →
      iter (roundE rbE (keepW rbR 0) rbF (rbP ++ [0] ++ rbI) 2) (nestK rbE (keepW rbR 0) rbF rbP 0 rbI K) f (rbT t a.2.1 a.2.2 i (a.1 + 1 : Nat)) :=
  loop_m (fun a : Nat × SV × Option SB => rbT t a.2.1 a.2.2 i (a.1 + 1 : Nat)) (fun a => n - a.1) (fun a => a.1 ≤ n ∧ tellsL barT 5 1 bsv (L0 ++ barsN t i a.1) a.2.1 a.2.2) (fun a => by
    obtain ⟨k, o, b⟩ := a
    rintro ⟨hk, ht⟩ Z hZ
    simp only at hk ht hZ ⊢
    rcases ht with ⟨hl, rfl, rfl⟩ | ⟨g, hl, rfl, rfl, hg⟩
    · rw [rb_in0, wi64_pred (k := k + 1) (by omega) (by omega)]
      simp only [Int.toNat_natCast, Nat.add_sub_cancel]
      refine Br.of (fun _ => Br.of (fun c => Br.of (fun _ => Br.of (fun _ => Br.of (fun _ => Br.of (fun _ => ?_) fun c1 => ?_) fun c1 => in_f hi c1) fun c1 => ?_) fun c1 => in_f hi c1) fun c => ?_) fun c1 => in_f hi c1
      · have c' := of_decide_eq_true c
        show Z _
        rw [wi64_succ (n := n + 1) (by omega) (by omega)]
        refine hZ (k + 1, _, _) ⟨by show k + 1 ≤ n; omega, ?_⟩ (by show n - (k + 1) < n - k; omega)
        show tellsL barT 5 1 bsv (L0 ++ barsN t i (k + 1)) _ _
        rw [barsN_succ, ← List.append_assoc, hl, List.nil_append]
        exact tells_first (barAt_sv t i k) rfl
      · have c' := of_decide_eq_true c
        exact in_f (by omega) c1
      · have c' := of_decide_eq_true c
        exact in_f (by omega) c1
      · have c' := of_decide_eq_false c
        have hkn : k = n := by omega
        subst hkn
        show nestK rbE (keepW rbR 0) rbF rbP 0 rbI K (.exit 2) (rbT t .nils none i (k + 1 : Nat))
        rw [rb_nest0, wi64_succ (n := 20) (by omega) (by omega)]
        exact hK _ _ (.inl ⟨hl, rfl, rfl⟩)
    · rw [rb_in1, wi64_pred (k := k + 1) (by omega) (by omega)]
      simp only [Int.toNat_natCast, Nat.add_sub_cancel]
      have hlen : (L0 ++ barsN t i k).length ≤ 2100 := by rw [List.length_append, barsN_len]; omega
      refine Br.of (fun _ => Br.of (fun c => Br.of (fun _ => Br.of (fun _ => Br.of (fun _ => Br.of (fun _ => Br.of (fun _ => ?_) fun c1 => ?_) fun c1 => ?_) fun c1 => in_f hi c1) fun c1 => ?_) fun c1 => in_f hi c1) fun c => ?_) fun c1 => in_f hi c1
      · have c' := of_decide_eq_true c
        show Z _
        rw [wi64_succ (n := n + 1) (by omega) (by omega)]
        refine hZ (k + 1, _, _) ⟨by show k + 1 ≤ n; omega, ?_⟩ (by show n - (k + 1) < n - k; omega)
        show tellsL barT 5 1 bsv (L0 ++ barsN t i (k + 1)) _ _
        rw [barsN_succ, ← List.append_assoc]
        exact tells_push (barAt_sv t i k) rfl hg
      · rw [Bool.and_eq_false_iff, Bool.and_eq_false_iff] at c1
        rcases c1 with (c1 | c1) | c1
        · have := of_decide_eq_false c1; omega
        · have := of_decide_eq_false c1; omega
        · simp at c1
      · have c' := of_decide_eq_true c
        exact in_f (by omega) c1
      · have c' := of_decide_eq_true c
        exact in_f (by omega) c1
      · have c' := of_decide_eq_false c
        have hkn : k = n := by omega
        subst hkn
        show nestK rbE (keepW rbR 0) rbF rbP 0 rbI K (.exit 2) (rbT t _ _ i (k + 1 : Nat))
        rw [rb_nest1, wi64_succ (n := 20) (by omega) (by omega)]
        exact hK _ _ (.inr ⟨g, hl, rfl, rfl, hg⟩))
theorem rbars_law (t : Trk) (hs : smallR t) (K : KC) (hK : rowsEnd barT 5 bsv (barL t) K) : runL rbR (fun _ => 0) s4 2 80 [.agg (trkC t)] [] K := by
  rw [rb_entry]
  obtain ⟨hs1, hs2⟩ := hs
  refine ⟨t.nr + 1, loop_m (fun a : Nat × SV × Option SB => rbS t a.2.1 a.2.2 a.1) (fun a => t.nr - a.1) (fun a => a.1 ≤ t.nr ∧ tellsL barT 5 1 bsv (allBars t a.1) a.2.1 a.2.2) (fun a => ?_) (t.nr + 1) (0, .nils, none) ⟨Nat.zero_le _, tells_nil⟩ (by omega)⟩
  obtain ⟨i, o, b⟩ := a
  rintro ⟨hi, ht⟩ Z hZ
  simp only at hi ht hZ ⊢
  have hlen : (allBars t i).length ≤ 2000 := by
    have := allBars_len hs2 i hi
    have : i * 100 ≤ 20 * 100 := Nat.mul_le_mul_right _ (by omega)
    omega
  have hinner : i < t.nr → ∃ q, iter (roundE rbE (keepW rbR 0) rbF (rbP ++ [0] ++ rbI) 2) (nestK rbE (keepW rbR 0) rbF rbP 0 rbI (nextK Z (afterE rbE (keepW rbR 0) rbF rbP 0 K))) q (rbT t o b i (0 + 1 : Nat)) := fun hlt =>
    ⟨(t.rn i - 1) + 1, rb_inner t i (t.rn i - 1) (allBars t i) hlt hs1 (hs2 i hlt) rfl hlen _ (fun o b h => hZ (i + 1, o, b) ⟨hlt, h⟩ (by show t.nr - (i + 1) < t.nr - i; omega)) _ (0, o, b)
      ⟨Nat.zero_le _, by show tellsL barT 5 1 bsv (allBars t i ++ barsN t i 0) o b; rw [show barsN t i 0 = [] from rfl, List.append_nil]; exact ht⟩ (by show t.rn i - 1 - 0 < _; omega)⟩
  have hend : i = t.nr → tellsL barT 5 1 bsv (barL t) o b := fun h => by subst h; exact ht
  rcases ht with ⟨hl, rfl, rfl⟩ | ⟨g, hl, rfl, rfl, hg⟩
  · rw [rb_round0]
    refine Br.of (fun c => hinner (by have := of_decide_eq_true c; omega)) fun c => ?_
    have c' := of_decide_eq_false c
    show afterE rbE (keepW rbR 0) rbF rbP 0 K (.exit 0) (rbS t .nils none i)
    rw [rb_after0]
    rcases hend (by omega) with ⟨h, _, _⟩ | ⟨_, _, h, _⟩
    · exact hK.1 h
    · cases h
  · rw [rb_round1]
    refine Br.of (fun c => hinner (by have := of_decide_eq_true c; omega)) fun c => ?_
    have c' := of_decide_eq_false c
    show afterE rbE (keepW rbR 0) rbF rbP 0 K (.exit 0) (rbS t _ _ i)
    rw [rb_after1]
    have hi' : i = t.nr := by omega
    subst hi'
    exact hK.2 g hl hg
theorem rbars_ok (t : Trk) (hs : smallR t) : CallOK Tryz.prog 80 [.agg (trkC t)] [] (.ro (barL t).length 5 (barG (barL t))) [] [] :=
  callOK_rows (fun _ => rfl) fun K hK => calls_sat (env := tab.env s4 (fun _ => 0) (fun _ => false)) ⟨tab.htt, s4.ok⟩ tab.mixed (fun n => keepW_weaker n rbR) tab.hft 2 _ _ _ K (rbars_law t hs K hK)
theorem rbars_sat (xs : List SV) (σ : List (Option SB)) : Sat Tryz.prog 80 xs σ (cBars xs σ) := by
  intro K hK
  unfold cBars at hK
  split at hK
  · obtain ⟨h1, h2, hK⟩ := hK
    refine ⟨_, _, _, hK, ?_⟩
    rw [trkC_of h1]
    exact rbars_ok _ h2
  · exact hK.elim
def cTup (v : Trk → Int × Int) : List SV → List (Option SB) → KC → Prop
  | [.agg [.int .i64 a0, .int .i64 a1, .int .i64 a2, .int .i64 a3, .int .i64 a4, .int .i64 a5, .ro nh 1 h, .ro ng 1 g, .ro nk 3 kg, .ro nl 2 l, .ro nr 1 rl, .ro nt 5 gt, .int .i64 sx, .int .i64 sy, .int .u32 hd, .int .i64 lp]], [], K => trkS h g kg l rl gt ∧ smallC nr rl ∧ tupK (v (trkOf a0 a1 a2 a3 a4 a5 nh h ng g nk kg nl l nr rl nt gt sx sy hd lp)) K
  | _, _, _ => False
theorem cTup_sat {k : FuncId} {v : Trk → Int × Int} (h : ∀ t : Trk, smallR t → t.nr < 9223372036854775808 → t.nt < 9223372036854775808 → Sat Tryz.prog k [.agg (trkC t)] [] (tupK (v t))) (xs : List SV) (σ : List (Option SB)) : Sat Tryz.prog k xs σ (cTup v xs σ) := by
  refine sat_of_ok (fun K hK => ?_) fun hx _ K hK => ?_ <;> unfold cTup at hK <;> split at hK
  · exact ⟨_, _, _, hK.2.2⟩
  · exact hK.elim
  · obtain ⟨⟨_, _, _, _, _, _, _, _, _, _, hr, ht, _⟩, _⟩ := hx
    rw [trkC_of hK.1]
    refine h _ ?_ hr.1 ht.1 K hK.2.2
    exact hK.2.1
  · exact hK.elim
theorem ways_sat (xs : List SV) (σ : List (Option SB)) : Sat Tryz.prog 79 xs σ (cTup waysV xs σ) :=
  cTup_sat (fun t _ h1 h2 K hK => calls_sat (env := tab.env s4 (fun _ => 0) (fun _ => false)) ⟨tab.htt, s4.ok⟩ tab.mixed (fun n => keepW_weaker n rwR) tab.hft 2 _ _ _ K (rw_law t h1 h2 K hK)) xs σ
noncomputable def s5 : Know Tryz.prog := ((s4).add 80 cBars rbars_sat).add 79 (cTup waysV) ways_sat
theorem rarea_nf (ax ay bx ey x y : Int) (K : KC) : run s5 3 112 [.agg [.int .i64 ax, .int .i64 ay], .agg [.int .i64 bx, .int .i64 ey], .agg [.int .i64 x, .int .i64 y]] [] K =
  (fun p q => Br (dvS (absI p) == 0) (If (okX q && dOkD (absI p)) (K (nSV (sumN (nvX q) (nvD false (absI p)))) [] [])) (If (okX q && dOkD (absI p)) (K (nSV (sumN (nvX q) (nvD (!decide (p < 0)) (absI p)))) [] [])))
    (w64 (ey - ay) * w64 (x - ax)) (w64 (bx - ax) * w64 (y - ay)) := by kernel_rfl
theorem rarea_ok (ax ay bx ey x y : Int) : CallOK Tryz.prog 112 [.agg [.int .i64 ax, .int .i64 ay], .agg [.int .i64 bx, .int .i64 ey], .agg [.int .i64 x, .int .i64 y]] [] (nSV (areaN ax ay bx ey x y)) [] [] :=
  run_ok s5 3 fun _ _ K hK => by
    rw [rarea_nf]
    unfold areaN at hK
    have r1 := w64_range (ey - ay)
    have r2 := w64_range (x - ax)
    have r3 := w64_range (bx - ax)
    have r4 := w64_range (y - ay)
    have m1 := mul_range r1.1 r1.2 r2.1 r2.2
    have m2 := mul_range r3.1 r3.2 r4.1 r4.2
    generalize w64 (ey - ay) * w64 (x - ax) = p at *
    generalize w64 (bx - ax) * w64 (y - ay) = q at *
    show Br _ _ _
    have h0 := absI_nonneg p
    have hp : absI p < 340282366920938463463374607431768211456 := by unfold absI; cases decide (p < 0) <;> simp only [cond_true, cond_false] <;> omega
    rw [dvS_eq h0 hp, nvX_eq (by omega) (by omega), nvD_eq h0 hp, nvD_eq h0 hp]
    refine Br.of (fun c => If.mk (by rw [okX_eq, dOkD_eq]; rfl) ?_) fun c => If.mk (by rw [okX_eq, dOkD_eq]; rfl) ?_
    · have c' := eq_of_beq c
      have : p = 0 := by unfold absI at c'; cases h : decide (p < 0) <;> rw [h] at c' <;> simp only [cond_true, cond_false] at c' <;> omega
      subst this
      exact hK
    · have : (bif !decide (p < 0) then -absI p else absI p) = -p := by unfold absI; cases h : decide (p < 0) <;> rfl
      rw [this]; exact hK
theorem rdot_nf (ax ay bx ey x y : Int) (K : KC) : run s5 3 110 [.agg [.int .i64 ax, .int .i64 ay], .agg [.int .i64 bx, .int .i64 ey], .agg [.int .i64 x, .int .i64 y]] [] K =
  (fun p q => If (okX p && okX q) (K (nSV (sumN (nvX p) (nvX q))) [] [])) (w64 (bx - ax) * w64 (x - ax)) (w64 (ey - ay) * w64 (y - ay)) := by kernel_rfl
theorem rdot_ok (ax ay bx ey x y : Int) : CallOK Tryz.prog 110 [.agg [.int .i64 ax, .int .i64 ay], .agg [.int .i64 bx, .int .i64 ey], .agg [.int .i64 x, .int .i64 y]] [] (nSV (dotN ax ay bx ey x y)) [] [] :=
  run_ok s5 3 fun _ _ K hK => by
    rw [rdot_nf]
    unfold dotN at hK
    have r1 := w64_range (ey - ay)
    have r2 := w64_range (x - ax)
    have r3 := w64_range (bx - ax)
    have r4 := w64_range (y - ay)
    have m1 := mul_range r3.1 r3.2 r2.1 r2.2
    have m2 := mul_range r1.1 r1.2 r4.1 r4.2
    generalize w64 (ey - ay) * w64 (y - ay) = p at *
    generalize w64 (bx - ax) * w64 (x - ax) = q at *
    refine If.mk (by rw [okX_eq, okX_eq]; rfl) ?_
    rw [nvX_eq (by omega) (by omega), nvX_eq (by omega) (by omega)]
    exact hK
theorem ropp_nf (s : Bool) (a b c d : Int) (K : KC) : run s5 3 111 [.agg [.bool s, .int .u64 a, .int .u64 b, .int .u64 c, .int .u64 d]] [] K =
  (Br (!s) (K (SV.agg [SV.bool !dv a b c d == 0, SV.int .u64 a, SV.int .u64 b, SV.int .u64 c, SV.int .u64 d]) [] []) (K (SV.agg [SV.bool false, SV.int .u64 a, SV.int .u64 b, SV.int .u64 c, SV.int .u64 d]) [] [])) := by kernel_rfl
theorem ropp_ok (s : Bool) (a b c d : Int) : CallOK Tryz.prog 111 [.agg [.bool s, .int .u64 a, .int .u64 b, .int .u64 c, .int .u64 d]] [] (.agg [.bool (!s && !(dv a b c d == 0)), .int .u64 a, .int .u64 b, .int .u64 c, .int .u64 d]) [] [] :=
  run_ok s5 3 fun _ _ K hK => by
    rw [ropp_nf]
    refine Br.of (fun e => ?_) fun e => ?_ <;> rw [e] at hK <;> exact hK
def cRArea : List SV → List (Option SB) → Out
  | [.agg [.int .i64 ax, .int .i64 ay], .agg [.int .i64 bx, .int .i64 ey], .agg [.int .i64 x, .int .i64 y]], [] => some (nSV (areaN ax ay bx ey x y), [], [])
  | _, _ => none
def cRDot : List SV → List (Option SB) → Out
  | [.agg [.int .i64 ax, .int .i64 ay], .agg [.int .i64 bx, .int .i64 ey], .agg [.int .i64 x, .int .i64 y]], [] => some (nSV (dotN ax ay bx ey x y), [], [])
  | _, _ => none
def cROpp : List SV → List (Option SB) → Out
  | [.agg [.bool s, .int .u64 a, .int .u64 b, .int .u64 c, .int .u64 d]], [] => some (.agg [.bool (!s && !(dv a b c d == 0)), .int .u64 a, .int .u64 b, .int .u64 c, .int .u64 d], [], [])
  | _, _ => none
noncomputable def s6 : Know Tryz.prog := (((s5).add 112 (one cRArea) (one_sat fun xs σ v σ' d h => by
    unfold cRArea at h; split at h <;> cases h; first | exact rarea_ok | exact rarea_ok _ | exact rarea_ok _ _ | exact rarea_ok _ _ _ | exact rarea_ok _ _ _ _ | exact rarea_ok _ _ _ _ _ | exact rarea_ok _ _ _ _ _ _ | exact rarea_ok _ _ _ _ _ _ _ | exact rarea_ok _ _ _ _ _ _ _ _ | exact rarea_ok _ _ _ _ _ _ _ _ _ | exact rarea_ok _ _ _ _ _ _ _ _ _ _ | exact rarea_ok _ _ _ _ _ _ _ _ _ _ _)).add 110 (one cRDot) (one_sat fun xs σ v σ' d h => by
    unfold cRDot at h; split at h <;> cases h; first | exact rdot_ok | exact rdot_ok _ | exact rdot_ok _ _ | exact rdot_ok _ _ _ | exact rdot_ok _ _ _ _ | exact rdot_ok _ _ _ _ _ | exact rdot_ok _ _ _ _ _ _ | exact rdot_ok _ _ _ _ _ _ _ | exact rdot_ok _ _ _ _ _ _ _ _ | exact rdot_ok _ _ _ _ _ _ _ _ _ | exact rdot_ok _ _ _ _ _ _ _ _ _ _ | exact rdot_ok _ _ _ _ _ _ _ _ _ _ _)).add 111 (one cROpp) (one_sat fun xs σ v σ' d h => by
    unfold cROpp at h; split at h <;> cases h; first | exact ropp_ok | exact ropp_ok _ | exact ropp_ok _ _ | exact ropp_ok _ _ _ | exact ropp_ok _ _ _ _ | exact ropp_ok _ _ _ _ _ | exact ropp_ok _ _ _ _ _ _ | exact ropp_ok _ _ _ _ _ _ _ | exact ropp_ok _ _ _ _ _ _ _ _ | exact ropp_ok _ _ _ _ _ _ _ _ _ | exact ropp_ok _ _ _ _ _ _ _ _ _ _ | exact ropp_ok _ _ _ _ _ _ _ _ _ _ _)
theorem rside_nf (ax ay bx ey x y : Int) (K : KC) : run s6 3 108 [.agg [.int .i64 ax, .int .i64 ay], .agg [.int .i64 bx, .int .i64 ey], .agg [.int .i64 x, .int .i64 y]] [] K =
  (Br (!!farT ax ay bx ey x y) (K (SV.int .i64 0) [] []) (K (SV.int .i64 (cmpI (nvD (decide (areaN ax ay bx ey x y < 0)) (absI (areaN ax ay bx ey x y))) 0)) [] [])) := by kernel_rfl
def sideN (ax ay bx ey x y : Int) : Int := bif farT ax ay bx ey x y then 0 else cmpI (areaN ax ay bx ey x y) 0
theorem sumN_range (s t : Int) : -170141183460469231731687303715884105728 ≤ sumN s t ∧ sumN s t < 170141183460469231731687303715884105728 := by
  unfold sumN
  cases h : in128 (s + t)
  · simp only [cond_false]; omega
  · simp only [cond_true]; exact (in128_iff _).1 h
theorem nvD_self {x : Int} (h0 : -340282366920938463463374607431768211456 < x) (h1 : x < 340282366920938463463374607431768211456) : nvD (decide (x < 0)) (absI x) = x := nvX_eq h0 h1
theorem rside_ok (ax ay bx ey x y : Int) : CallOK Tryz.prog 108 [.agg [.int .i64 ax, .int .i64 ay], .agg [.int .i64 bx, .int .i64 ey], .agg [.int .i64 x, .int .i64 y]] [] (.int .i64 (sideN ax ay bx ey x y)) [] [] :=
  run_ok s6 3 fun _ _ K hK => by
    rw [rside_nf]
    have := sumN_range (w64 (bx - ax) * w64 (y - ay)) (-(w64 (ey - ay) * w64 (x - ax)))
    rw [nvD_self (show _ < areaN ax ay bx ey x y by unfold areaN; omega) (show areaN ax ay bx ey x y < _ by unfold areaN; omega)]
    unfold sideN at hK
    refine Br.of (fun e => ?_) fun e => ?_ <;> rw [Bool.not_not] at e <;> rw [e] at hK <;> exact hK
def cRSide : List SV → List (Option SB) → Out
  | [.agg [.int .i64 ax, .int .i64 ay], .agg [.int .i64 bx, .int .i64 ey], .agg [.int .i64 x, .int .i64 y]], [] => some (.int .i64 (sideN ax ay bx ey x y), [], [])
  | _, _ => none
noncomputable def s7 : Know Tryz.prog := (s6).add 108 (one cRSide) (one_sat fun xs σ v σ' d h => by
    unfold cRSide at h; split at h <;> cases h; first | exact rside_ok | exact rside_ok _ | exact rside_ok _ _ | exact rside_ok _ _ _ | exact rside_ok _ _ _ _ | exact rside_ok _ _ _ _ _ | exact rside_ok _ _ _ _ _ _ | exact rside_ok _ _ _ _ _ _ _ | exact rside_ok _ _ _ _ _ _ _ _ | exact rside_ok _ _ _ _ _ _ _ _ _ | exact rside_ok _ _ _ _ _ _ _ _ _ _ | exact rside_ok _ _ _ _ _ _ _ _ _ _ _)
def ryR : List (Nat × Keep) := [(0, ⟨[7, 12, 13, 14], [4], [1, 2, 3, 4, 5, 6, 7, 8], 5, [(7, 4)]⟩)]
def ryS (s : Bool) (A L n i : Int) : St := ⟨[(7, .ptr 4 0), (12, .int .i64 L), (13, .int .i64 n), (14, .int .i64 i)], [(4, some (.cells 161 (.bool s :: digL A)))], 5, [1, 2, 3, 4, 5, 6, 7, 8], 91⟩
noncomputable abbrev ryE : Env := envL ryR (fun _ => 0) s7 1
noncomputable abbrev ryF : Func := Tryz.f81
abbrev ryP : List Nat := [1, 1, 1, 1, 1, 1, 1, 1, 0, 1, 0]
theorem ry_entry (ax ay bx ey x y : Int) (K : KC) : runL ryR (fun _ => 0) s7 2 81 [.agg [.int .i64 ax, .int .i64 ay], .agg [.int .i64 bx, .int .i64 ey], .agg [.int .i64 x, .int .i64 y]] [] K =
  Br (!!farT ax ay bx ey x y) (K (.int .i64 0) [] []) (Br (decide (sideN ax ay bx ey x y ≥ 0)) (K (.int .i64 0) [] []) (Br (decide (cmpI (nvX (dotN ax ay bx ey x y)) 0 < 0)) (K (.int .i64 0) [] []) (Br (decide (cmpI (nvX (dotN bx ey ax ay x y)) 0 < 0)) (K (.int .i64 0) [] [])
    ((fun p q => If (okX p && okX q) ((fun N => If (okX N && decide (nvX N < 170141183460469231731687303715884105728)) (∃ k, loopE ryE (keepW ryR 0) ryF ryP 0 0 K k
      (ryS (!decide (areaN ax ay bx ey x y < 0) && !(dvS (absI (areaN ax ay bx ey x y)) == 0)) (absI (areaN ax ay bx ey x y)) (IntKind.i64.wrap (isqrt (nvX N))) 0 62))) (sumN (nvX p) (nvX q))))
      (w64 (bx - ax) * w64 (bx - ax)) (w64 (ey - ay) * w64 (ey - ay)))))) := by kernel_rfl
theorem ry_round (s : Bool) (A L n : Int) (i : Nat) (K : Ex → St → Prop) : roundE ryE (keepW ryR 0) ryF ryP 0 K (ryS s A L n i) =
  (fun m => If (okX (m * L) && dOkD A) (Br (decide (cmpI (nvX (m * L)) (nvD s A) < 0)) (K .normal (ryS s A L m (IntKind.i64.wrap (i - 1)))) (K .normal (ryS s A L n (IntKind.i64.wrap (i - 1))))))
    (IntKind.i64.wrap (n + IntKind.i64.wrap (1 * 2 ^ min (IntKind.u64.wrap (i : Int)).toNat 64))) := by kernel_rfl
theorem ry_end (s : Bool) (A L n : Int) (K : Ex → St → Prop) : roundE ryE (keepW ryR 0) ryF ryP 0 K (ryS s A L n (-1)) = K (.exit 0) (ryS s A L n (-1)) := by kernel_rfl
theorem ry_after (s : Bool) (A L n i : Int) (K : KC) : afterE ryE (keepW ryR 0) ryF ryP 0 K (.exit 0) (ryS s A L n i) = K (.int .i64 (IntKind.i64.wrap (n + 1))) [] [] := by kernel_rfl
theorem cmp_lt (x y : Int) : decide (cmpI x y < 0) = decide (x < y) := by
  unfold cmpI
  cases h : decide (x < y)
  · simp only [cond_false]; cases decide (y < x) <;> rfl
  · rfl
theorem ry_loop (A L : Int) (hA : 0 ≤ A) (hA' : A < 1267650600228229401496703205376) (hL : 0 < L) (hL' : L ≤ 1125899906842624) (K : KC) :
    ∀ (f : Nat) (a : Nat × Int), (((a.1 ≤ 63 ∧ 0 ≤ a.2) ∧ a.2 + 2 ^ a.1 ≤ 9223372036854775808) ∧ K (.int .i64 (IntKind.i64.wrap (bitsF A L a.1 a.2 + 1))) [] []) → a.1 < f →
      iter (roundE ryE (keepW ryR 0) ryF ryP 0) (afterE ryE (keepW ryR 0) ryF ryP 0 K) f (ryS false A L a.2 ((a.1 : Int) - 1)) :=
  loop_m (fun a : Nat × Int => ryS false A L a.2 ((a.1 : Int) - 1)) (fun a => a.1) (fun a => ((a.1 ≤ 63 ∧ 0 ≤ a.2) ∧ a.2 + 2 ^ a.1 ≤ 9223372036854775808) ∧ K (.int .i64 (IntKind.i64.wrap (bitsF A L a.1 a.2 + 1))) [] []) (fun a => by
    obtain ⟨k, n⟩ := a
    rintro ⟨⟨⟨h1, h2⟩, h3⟩, hK⟩ Z hZ
    simp only at h1 h2 h3 hK hZ ⊢
    cases k with
    | zero =>
      rw [show ((0 : Nat) : Int) - 1 = -1 from rfl, ry_end]
      show afterE ryE (keepW ryR 0) ryF ryP 0 K (.exit 0) (ryS false A L n (-1))
      rw [ry_after]
      exact hK
    | succ k =>
      have hp : (2 : Int) ^ (k + 1) = 2 ^ k * 2 := Int.pow_succ 2 k
      have hpos : (0 : Int) < 2 ^ k := Int.pow_pos (by decide)
      rw [hp] at h3
      unfold bitsF at hK
      rw [show ((k + 1 : Nat) : Int) - 1 = (k : Int) by omega, ry_round]
      have e1 : IntKind.u64.wrap (k : Int) = (k : Int) := by rw [wu64]; omega
      have e2 : IntKind.i64.wrap ((k : Int) - 1) = (k : Int) - 1 := by rw [wi64]; omega
      have e3 : IntKind.i64.wrap (1 * 2 ^ k) = 2 ^ k := by rw [wi64, Int.one_mul]; omega
      rw [e1, e2, Int.toNat_natCast, Nat.min_eq_left (by omega), e3, wi64, show (n + 2 ^ k + 9223372036854775808) % 18446744073709551616 - 9223372036854775808 = n + 2 ^ k by omega]
      have mb := mulB (a := n + 2 ^ k) (N := 9223372036854775808) (b := L) (M := 1125899906842624) (by omega) (by omega) (by omega) hL'
      show If _ _
      rw [nvX_eq (by omega) (by omega), nvD_eq hA (by omega), cmp_lt, show (bif false then -A else A) = A from rfl]
      refine If.mk (by rw [okX_eq, dOkD_eq]; rfl) (Br.of (fun c => ?_) fun c => ?_)
      · rw [c] at hK
        exact hZ (k, n + 2 ^ k) ⟨⟨⟨by show k ≤ 63; omega, by show 0 ≤ n + 2 ^ k; omega⟩, by show n + 2 ^ k + 2 ^ k ≤ _; omega⟩, hK⟩ (by show k < k + 1; omega)
      · rw [c] at hK
        exact hZ (k, n) ⟨⟨⟨by show k ≤ 63; omega, h2⟩, by show n + 2 ^ k ≤ _; omega⟩, hK⟩ (by show k < k + 1; omega))
theorem ry_ok (ax ay bx ey x y : Int) : CallOK Tryz.prog 81 [.agg [.int .i64 ax, .int .i64 ay], .agg [.int .i64 bx, .int .i64 ey], .agg [.int .i64 x, .int .i64 y]] [] (.int .i64 (beyV ax ay bx ey x y)) [] [] :=
  runL_ok ryR (fun _ => 0) s7 2 (fun _ h => nomatch h) fun _ _ K hK => by
    have hK := hK [] fun _ h => nomatch h
    rw [ry_entry]
    unfold beyV at hK
    refine Br.of (fun c => ?_) fun c => ?_
    · rw [Bool.not_not] at c; rw [c] at hK; exact hK
    rw [Bool.not_not] at c; rw [c] at hK
    simp only [cond_false] at hK
    obtain ⟨⟨h1, h2⟩, ⟨h3, h4⟩, ⟨h5, h6⟩⟩ := bey_facts c
    have r1 := area_range c
    obtain ⟨d1, d2, d3⟩ := dot_range c
    have hs : sideN ax ay bx ey x y = cmpI (areaV ax ay bx ey x y) 0 := by unfold sideN; rw [c, areaN_eq c]; rfl
    rw [hs, cmpI_ge, dotN_W, dotN_W, dotAW_eq h1 h2 h3 h4, dotAW_eq (by omega) (by omega) h5 h6, nvX_eq (by omega) (by omega), nvX_eq (by omega) (by omega), cmp_lt, cmp_lt, areaN_eq c]
    refine Br.of (fun c1 => ?_) fun c1 => Br.of (fun c2 => ?_) fun c2 => Br.of (fun c3 => ?_) fun c3 => ?_
    · rw [c1] at hK; exact hK
    · rw [c1, c2] at hK; exact hK
    · rw [c1, c2, c3] at hK; exact hK
    · rw [c1, c2, c3] at hK
      simp only [Bool.or_false, cond_false] at hK
      have c1' := of_decide_eq_false c1
      obtain ⟨l1, l2, l3⟩ := area_long c (by omega)
      rw [w64_eq (by omega) (by omega), w64_eq (by omega) (by omega)]
      have m1 := mul49 h1.1 h1.2 h1.1 h1.2
      have m2 := mul49 h2.1 h2.2 h2.1 h2.2
      have hN : sumN (nvX ((bx - ax) * (bx - ax))) (nvX ((ey - ay) * (ey - ay))) = dotA ax ay bx ey bx ey := by
        rw [nvX_eq (by omega) (by omega), nvX_eq (by omega) (by omega)]
        unfold sumN dotA
        rw [show in128 ((bx - ax) * (bx - ax) + (ey - ay) * (ey - ay)) = true from (in128_iff _).2 ⟨by omega, by omega⟩]; rfl
      refine If.mk (by rw [okX_eq, okX_eq]; rfl) ?_
      rw [hN]
      refine If.mk (by rw [okX_eq, nvX_eq (by omega) (by omega), decide_eq_true (by omega)]; rfl) ?_
      rw [nvX_eq (by omega) (by omega), wi64]
      generalize hL : isqrt (dotA ax ay bx ey bx ey) = L at *
      rw [show (L + 9223372036854775808) % 18446744073709551616 - 9223372036854775808 = L by omega]
      have ha : absI (areaV ax ay bx ey x y) = -areaV ax ay bx ey x y := by unfold absI; rw [decide_eq_true (by omega)]; rfl
      rw [ha, decide_eq_true (show areaV ax ay bx ey x y < 0 by omega)]
      generalize hA : -areaV ax ay bx ey x y = A at *
      have mL := mulB (a := L) (N := 1125899906842624) (b := 1) (M := 1) (by omega) (by omega) (by decide) (by decide)
      obtain ⟨b1, b2⟩ := bitsF_ok (A := A) (L := L) 63 0 (by rw [Int.zero_mul]; omega) (by rw [Int.zero_add, show (2 : Int) ^ 63 = 9223372036854775808 from rfl]; omega)
      have hc : ceilD A L = bitsF A L 63 0 + 1 := ceilD_unique l1 (by rw [show bitsF A L 63 0 + 1 - 1 = bitsF A L 63 0 by omega]; exact b1) b2
      have hc0 : 0 ≤ ceilD A L ∧ ceilD A L ≤ 1125899906842624 := by
        unfold ceilD
        refine ⟨Int.ediv_nonneg (by omega) (by omega), ?_⟩
        have : (A + L - 1) / L < 1125899906842625 := by rw [Int.ediv_lt_iff_lt_mul l1]; omega
        omega
      rw [hc] at hK hc0
      refine ⟨64, ry_loop A L (by omega) (by omega) l1 l2 K 64 (63, 0) ⟨⟨⟨by decide, by decide⟩, by decide⟩, ?_⟩ (by decide)⟩
      rw [wi64, show (bitsF A L 63 0 + 1 + 9223372036854775808) % 18446744073709551616 - 9223372036854775808 = bitsF A L 63 0 + 1 by omega]
      exact hK
noncomputable def s8 : Know Tryz.prog := (s7).add 81 (one cPBey) (one_sat fun xs σ v σ' d h => by
    unfold cPBey at h; split at h <;> cases h; first | exact ry_ok | exact ry_ok _ | exact ry_ok _ _ | exact ry_ok _ _ _ | exact ry_ok _ _ _ _ | exact ry_ok _ _ _ _ _ | exact ry_ok _ _ _ _ _ _ | exact ry_ok _ _ _ _ _ _ _ | exact ry_ok _ _ _ _ _ _ _ _ | exact ry_ok _ _ _ _ _ _ _ _ _ | exact ry_ok _ _ _ _ _ _ _ _ _ _ | exact ry_ok _ _ _ _ _ _ _ _ _ _ _)
def rzR : List (Nat × Keep) := [(0, ⟨[1, 2, 3, 6, 7], [0], [1, 2, 3, 4, 5, 6], 1, []⟩)]
def rzS (t : Trk) (L : List Bar) (c a i : Int) : St := ⟨[(1, .ptr 0 0), (2, .int .i64 c), (3, .int .i64 a), (6, .ro L.length 5 (barG L)), (7, .int .i64 i)], [(0, some (.cells 34 (trkC t)))], 1, [1, 2, 3, 4, 5, 6], 124⟩
noncomputable abbrev rzE : Env := envL rzR (fun _ => 0) s8 1
noncomputable abbrev rzF : Func := Tryz.f31
abbrev rzP : List Nat := [1, 1, 1, 1, 1, 1, 1, 1, 1, 1, 0, 1, 0]
theorem rz_entry (t : Trk) (K : KC) : runL rzR (fun _ => 0) s8 2 31 [.agg (trkC t)] [] K =
  (Br (decide (t.rate < 60)) (K (SV.tup [SV.int .i64 40, SV.int .i64 0]) [] []) (Br (decide (t.rate > 1024)) (K (SV.tup [SV.int .i64 40, SV.int .i64 0]) [] []) ((trkS (oneG t.h) (oneG t.g) (kindG t) (ptsG t.lx t.ly) (railG t) (gateG t)) ∧ (Br (fieldV t == 0) ((pts (ptsG t.lx t.ly)) ∧ (Br ((lineV t.nl (fun (i : Nat) => px (ptsG t.lx t.ly i)) fun (i : Nat) => py (ptsG t.lx t.ly i)) == 0) ((pts (ptsG t.lx t.ly)) ∧ (Br (anyB (fun (i : Nat) => offP (px (ptsG t.lx t.ly i)) (py (ptsG t.lx t.ly i))) t.nl) (K (SV.tup [SV.int .i64 40, SV.int .i64 0]) [] []) (Br ((lineV t.nl (fun (i : Nat) => px (ptsG t.lx t.ly i)) fun (i : Nat) => py (ptsG t.lx t.ly i)) != 0) (K (SV.tup [SV.int .i64 (lineV t.nl (fun (i : Nat) => px (ptsG t.lx t.ly i)) fun (i : Nat) => py (ptsG t.lx t.ly i)), SV.int .i64 0]) [] []) ((trkS (oneG t.h) (oneG t.g) (kindG t) (ptsG t.lx t.ly) (railG t) (gateG t)) ∧ ((smallC t.nr (railG t)) ∧ (Br ((waysV t).fst != 0) (K (SV.tup [SV.int .i64 (waysV t).fst, SV.int .i64 (waysV t).snd]) [] []) (Br (decide (t.sx < t.cx)) (K (SV.tup [SV.int .i64 40, SV.int .i64 0]) [] []) (Br (decide (t.sx > IntKind.i64.wrap (t.cx + IntKind.i64.wrap (t.cols * t.cell)))) (K (SV.tup [SV.int .i64 40, SV.int .i64 0]) [] []) (Br (decide (t.sy < t.cy)) (K (SV.tup [SV.int .i64 40, SV.int .i64 0]) [] []) (Br (decide (t.sy > IntKind.i64.wrap (t.cy + IntKind.i64.wrap (t.rows * t.cell)))) (K (SV.tup [SV.int .i64 40, SV.int .i64 0]) [] []) ((trkS (oneG t.h) (oneG t.g) (kindG t) (ptsG t.lx t.ly) (railG t) (gateG t)) ∧ ((smallC t.nr (railG t)) ∧ (∃ q_, loopE rzE (keepW rzR 0) rzF rzP 0 0 K q_ { tmps := [(1, SV.ptr 0 0), (2, SV.int .i64 0), (3, SV.int .i64 0), (6, SV.ro (barL t).length 5 (barG (barL t))), (7, SV.int .i64 0)], store := [(0, some (SB.cells 34 (trkC t)))], nxt := 1, dirty := [1, 2, 3, 4, 5, 6], nt := 124 }))))))))))))) (Br ((lineV t.nl (fun (i : Nat) => px (ptsG t.lx t.ly i)) fun (i : Nat) => py (ptsG t.lx t.ly i)) != 0) (K (SV.tup [SV.int .i64 (lineV t.nl (fun (i : Nat) => px (ptsG t.lx t.ly i)) fun (i : Nat) => py (ptsG t.lx t.ly i)), SV.int .i64 0]) [] []) ((trkS (oneG t.h) (oneG t.g) (kindG t) (ptsG t.lx t.ly) (railG t) (gateG t)) ∧ ((smallC t.nr (railG t)) ∧ (Br ((waysV t).fst != 0) (K (SV.tup [SV.int .i64 (waysV t).fst, SV.int .i64 (waysV t).snd]) [] []) (Br (decide (t.sx < t.cx)) (K (SV.tup [SV.int .i64 40, SV.int .i64 0]) [] []) (Br (decide (t.sx > IntKind.i64.wrap (t.cx + IntKind.i64.wrap (t.cols * t.cell)))) (K (SV.tup [SV.int .i64 40, SV.int .i64 0]) [] []) (Br (decide (t.sy < t.cy)) (K (SV.tup [SV.int .i64 40, SV.int .i64 0]) [] []) (Br (decide (t.sy > IntKind.i64.wrap (t.cy + IntKind.i64.wrap (t.rows * t.cell)))) (K (SV.tup [SV.int .i64 40, SV.int .i64 0]) [] []) ((trkS (oneG t.h) (oneG t.g) (kindG t) (ptsG t.lx t.ly) (railG t) (gateG t)) ∧ ((smallC t.nr (railG t)) ∧ (∃ q_, loopE rzE (keepW rzR 0) rzF rzP 0 0 K q_ { tmps := [(1, SV.ptr 0 0), (2, SV.int .i64 0), (3, SV.int .i64 0), (6, SV.ro (barL t).length 5 (barG (barL t))), (7, SV.int .i64 0)], store := [(0, some (SB.cells 34 (trkC t)))], nxt := 1, dirty := [1, 2, 3, 4, 5, 6], nt := 124 }))))))))))))) (Br (fieldV t == 0) ((pts (ptsG t.lx t.ly)) ∧ (Br (anyB (fun (i : Nat) => offP (px (ptsG t.lx t.ly i)) (py (ptsG t.lx t.ly i))) t.nl) (K (SV.tup [SV.int .i64 40, SV.int .i64 0]) [] []) (Br (fieldV t != 0) (K (SV.tup [SV.int .i64 (fieldV t), SV.int .i64 0]) [] []) ((trkS (oneG t.h) (oneG t.g) (kindG t) (ptsG t.lx t.ly) (railG t) (gateG t)) ∧ ((smallC t.nr (railG t)) ∧ (Br ((waysV t).fst != 0) (K (SV.tup [SV.int .i64 (waysV t).fst, SV.int .i64 (waysV t).snd]) [] []) (Br (decide (t.sx < t.cx)) (K (SV.tup [SV.int .i64 40, SV.int .i64 0]) [] []) (Br (decide (t.sx > IntKind.i64.wrap (t.cx + IntKind.i64.wrap (t.cols * t.cell)))) (K (SV.tup [SV.int .i64 40, SV.int .i64 0]) [] []) (Br (decide (t.sy < t.cy)) (K (SV.tup [SV.int .i64 40, SV.int .i64 0]) [] []) (Br (decide (t.sy > IntKind.i64.wrap (t.cy + IntKind.i64.wrap (t.rows * t.cell)))) (K (SV.tup [SV.int .i64 40, SV.int .i64 0]) [] []) ((trkS (oneG t.h) (oneG t.g) (kindG t) (ptsG t.lx t.ly) (railG t) (gateG t)) ∧ ((smallC t.nr (railG t)) ∧ (∃ q_, loopE rzE (keepW rzR 0) rzF rzP 0 0 K q_ { tmps := [(1, SV.ptr 0 0), (2, SV.int .i64 0), (3, SV.int .i64 0), (6, SV.ro (barL t).length 5 (barG (barL t))), (7, SV.int .i64 0)], store := [(0, some (SB.cells 34 (trkC t)))], nxt := 1, dirty := [1, 2, 3, 4, 5, 6], nt := 124 }))))))))))))) (Br (fieldV t != 0) (K (SV.tup [SV.int .i64 (fieldV t), SV.int .i64 0]) [] []) ((trkS (oneG t.h) (oneG t.g) (kindG t) (ptsG t.lx t.ly) (railG t) (gateG t)) ∧ ((smallC t.nr (railG t)) ∧ (Br ((waysV t).fst != 0) (K (SV.tup [SV.int .i64 (waysV t).fst, SV.int .i64 (waysV t).snd]) [] []) (Br (decide (t.sx < t.cx)) (K (SV.tup [SV.int .i64 40, SV.int .i64 0]) [] []) (Br (decide (t.sx > IntKind.i64.wrap (t.cx + IntKind.i64.wrap (t.cols * t.cell)))) (K (SV.tup [SV.int .i64 40, SV.int .i64 0]) [] []) (Br (decide (t.sy < t.cy)) (K (SV.tup [SV.int .i64 40, SV.int .i64 0]) [] []) (Br (decide (t.sy > IntKind.i64.wrap (t.cy + IntKind.i64.wrap (t.rows * t.cell)))) (K (SV.tup [SV.int .i64 40, SV.int .i64 0]) [] []) ((trkS (oneG t.h) (oneG t.g) (kindG t) (ptsG t.lx t.ly) (railG t) (gateG t)) ∧ ((smallC t.nr (railG t)) ∧ (∃ q_, loopE rzE (keepW rzR 0) rzF rzP 0 0 K q_ { tmps := [(1, SV.ptr 0 0), (2, SV.int .i64 0), (3, SV.int .i64 0), (6, SV.ro (barL t).length 5 (barG (barL t))), (7, SV.int .i64 0)], store := [(0, some (SB.cells 34 (trkC t)))], nxt := 1, dirty := [1, 2, 3, 4, 5, 6], nt := 124 })))))))))))))))) := by kernel_rfl
theorem rz_round (t : Trk) (L : List Bar) (i : Nat) (K : Ex → St → Prop) : roundE rzE (keepW rzR 0) rzF rzP 0 K (rzS t L 0 0 i) =
  (Br (decide ((↑i : Int) < (↑L.length : Int))) (Br (decide (0 ≤ (↑i : Int)) && decide ((↑i : Int) < (↑L.length : Int))) (Br (decide (0 ≤ (↑i : Int)) && decide ((↑i : Int) < (↑L.length : Int))) (Br (decide (beyV (L.getD (↑i : Int).toNat bar0).fst (L.getD (↑i : Int).toNat bar0).snd.fst (L.getD (↑i : Int).toNat bar0).snd.snd.fst (L.getD (↑i : Int).toNat bar0).snd.snd.snd.fst t.sx t.sy > 0)) (Br (decide (beyV (L.getD (↑i : Int).toNat bar0).fst (L.getD (↑i : Int).toNat bar0).snd.fst (L.getD (↑i : Int).toNat bar0).snd.snd.fst (L.getD (↑i : Int).toNat bar0).snd.snd.snd.fst t.sx t.sy ≤ 17179869184)) (K Ex.ret { tmps := [(1, SV.ptr 0 0), (2, SV.int .i64 43), (3, SV.int .i64 0), (6, SV.ro L.length 5 (barG L)), (7, SV.int .i64 (↑i : Int))], store := [(0, some (SB.cells 34 (trkC t)))], nxt := 1, dirty := [1, 2, 3, 4, 5, 6], nt := 124 }) (K Ex.normal { tmps := [(1, SV.ptr 0 0), (2, SV.int .i64 0), (3, SV.int .i64 0), (6, SV.ro L.length 5 (barG L)), (7, SV.int .i64 (IntKind.i64.wrap ((↑i : Int) + 1)))], store := [(0, some (SB.cells 34 (trkC t)))], nxt := 1, dirty := [1, 2, 3, 4, 5, 6], nt := 124 })) (K Ex.normal { tmps := [(1, SV.ptr 0 0), (2, SV.int .i64 0), (3, SV.int .i64 0), (6, SV.ro L.length 5 (barG L)), (7, SV.int .i64 (IntKind.i64.wrap ((↑i : Int) + 1)))], store := [(0, some (SB.cells 34 (trkC t)))], nxt := 1, dirty := [1, 2, 3, 4, 5, 6], nt := 124 })) (False)) (False)) (K (Ex.exit 0) { tmps := [(1, SV.ptr 0 0), (2, SV.int .i64 0), (3, SV.int .i64 0), (6, SV.ro L.length 5 (barG L)), (7, SV.int .i64 (↑i : Int))], store := [(0, some (SB.cells 34 (trkC t)))], nxt := 1, dirty := [1, 2, 3, 4, 5, 6], nt := 124 })) := by kernel_rfl
theorem rz_ret (t : Trk) (L : List Bar) (c a i : Int) (K : KC) : afterE rzE (keepW rzR 0) rzF rzP 0 K .ret (rzS t L c a i) =
  (K (SV.tup [SV.int .i64 c, SV.int .i64 a]) [] []) := by kernel_rfl
theorem rz_after (t : Trk) (L : List Bar) (i : Int) (K : KC) : afterE rzE (keepW rzR 0) rzF rzP 0 K (.exit 0) (rzS t L 0 0 i) =
  (Br (decide (t.laps < 1)) (K (SV.tup [SV.int .i64 40, SV.int .i64 0]) [] []) (Br (decide (t.laps > 100)) (K (SV.tup [SV.int .i64 40, SV.int .i64 0]) [] []) (K (SV.tup [SV.int .i64 0, SV.int .i64 0]) [] []))) := by kernel_rfl
end Go.Proofs.YtbedljhbakdghaaGreatDoor
