import Derived.Test.YtbedljhbakdghaaGreatDoorTi
import Derived.Test.YtbedljhbakdghaaGreatDoorRe
namespace Go.Proofs.YtbedljhbakdghaaGreatDoor
open Go.Se
set_option maxRecDepth 100000
theorem rin_nf (x l h : Int) (K : KC) : run q5 2 102 [.int .i64 x, .int .i64 l, .int .i64 h] [] K =
  (Br (decide (x ≥ l)) (K (SV.bool (decide (x ≤ h))) [] []) (K (SV.bool false) [] [])) := by kernel_rfl
theorem rin_ok (x l h : Int) : CallOK Tryz.prog 102 [.int .i64 x, .int .i64 l, .int .i64 h] [] (.bool (inR x l h)) [] [] :=
  run_ok q5 2 fun _ _ K hK => by rw [rin_nf]; exact andQ hK
def cRIn : List SV → List (Option SB) → Out
  | [.int .i64 x, .int .i64 l, .int .i64 h], [] => some (.bool (inR x l h), [], [])
  | _, _ => none
theorem roff_nf (x y : Int) (K : KC) : run q5 2 105 [.agg [.int .i64 x, .int .i64 y]] [] K =
  (Br (decide (x > 140737488355328)) (K (SV.bool true) [] []) (Br (decide (x < -140737488355328)) (K (SV.bool true) [] []) (Br (decide (y > 140737488355328)) (K (SV.bool true) [] []) (K (SV.bool (decide (y < -140737488355328))) [] [])))) := by kernel_rfl
theorem roff_ok (x y : Int) : CallOK Tryz.prog 105 [.agg [.int .i64 x, .int .i64 y]] [] (.bool (offP x y)) [] [] :=
  run_ok q5 2 fun _ _ K hK => by
    rw [roff_nf]; simp only [Br_bool]; refine finB hK ?_
    unfold offP; grind
def cROff : List SV → List (Option SB) → Out
  | [.agg [.int .i64 x, .int .i64 y]], [] => some (.bool (offP x y), [], [])
  | _, _ => none
theorem rcounts_nf (t : Trk) (K : KC) : run q5 2 101 [.agg (trkC t)] [] K =
  (Br (decide (t.cols < 1)) (K (SV.bool false) [] []) (Br (decide (t.cols > 64)) (K (SV.bool false) [] []) (Br (decide (t.rows < 1)) (K (SV.bool false) [] []) (Br (decide (t.rows > 64)) (K (SV.bool false) [] []) (Br ((↑t.nh : Int) == IntKind.i64.wrap (IntKind.i64.wrap (t.cols + 1) * IntKind.i64.wrap (t.rows + 1))) (Br ((↑t.ng : Int) == IntKind.i64.wrap (t.cols * t.rows)) (Br (decide ((↑t.nk : Int) ≥ 1)) (K (SV.bool (decide ((↑t.nk : Int) ≤ 8))) [] []) (K (SV.bool false) [] [])) (K (SV.bool false) [] [])) (K (SV.bool false) [] [])))))) := by kernel_rfl
theorem rcounts_ok (t : Trk) : CallOK Tryz.prog 101 [.agg (trkC t)] [] (.bool (countedB t.cols t.rows t.nh t.ng t.nk)) [] [] :=
  run_ok q5 2 fun _ _ K hK => by
    rw [rcounts_nf]; simp only [Br_bool]; refine finB hK ?_
    unfold countedB; grind
theorem rcounts_sat (xs : List SV) (σ : List (Option SB)) : Sat Tryz.prog 101 xs σ (cCounted xs σ) := by
  intro K hK
  unfold cCounted at hK
  split at hK
  · refine ⟨_, _, _, hK.2, ?_⟩
    rw [trkC_of hK.1]
    exact rcounts_ok _
  · exact hK.elim
noncomputable def s1 : Know Tryz.prog := (((q5).add 102 (one cRIn) (one_sat fun xs σ v σ' d h => by
    unfold cRIn at h; split at h <;> cases h; first | exact rin_ok | exact rin_ok _ | exact rin_ok _ _ | exact rin_ok _ _ _ | exact rin_ok _ _ _ _ | exact rin_ok _ _ _ _ _ | exact rin_ok _ _ _ _ _ _ | exact rin_ok _ _ _ _ _ _ _ | exact rin_ok _ _ _ _ _ _ _ _ | exact rin_ok _ _ _ _ _ _ _ _ _ | exact rin_ok _ _ _ _ _ _ _ _ _ _ | exact rin_ok _ _ _ _ _ _ _ _ _ _ _)).add 105 (one cROff) (one_sat fun xs σ v σ' d h => by
    unfold cROff at h; split at h <;> cases h; first | exact roff_ok | exact roff_ok _ | exact roff_ok _ _ | exact roff_ok _ _ _ | exact roff_ok _ _ _ _ | exact roff_ok _ _ _ _ _ | exact roff_ok _ _ _ _ _ _ | exact roff_ok _ _ _ _ _ _ _ | exact roff_ok _ _ _ _ _ _ _ _ | exact roff_ok _ _ _ _ _ _ _ _ _ | exact roff_ok _ _ _ _ _ _ _ _ _ _ | exact roff_ok _ _ _ _ _ _ _ _ _ _ _)).add 101 cCounted rcounts_sat
theorem rgate_nf (a b c d : Int) (s : Bool) (K : KC) : run s1 2 107 [.agg [.int .i64 a, .int .i64 b, .int .i64 c, .int .i64 d, .bool s]] [] K =
  (Br (offP a b) (K (SV.int .i64 40) [] []) (Br (offP c d) (K (SV.int .i64 40) [] []) (Br (a == c && b == d) (K (SV.int .i64 43) [] []) (K (SV.int .i64 0) [] [])))) := by kernel_rfl
def gateW (a b c d : Int) : Int := bif offP a b || offP c d then 40 else bif a == c && b == d then 43 else 0
theorem rgate_ok (a b c d : Int) (s : Bool) : CallOK Tryz.prog 107 [.agg [.int .i64 a, .int .i64 b, .int .i64 c, .int .i64 d, .bool s]] [] (.int .i64 (gateW a b c d)) [] [] :=
  run_ok s1 2 fun _ _ K hK => by
    rw [rgate_nf]; simp only [Br_int]; refine finI hK ?_
    unfold gateW; cases offP a b <;> cases offP c d <;> rfl
def cRGate : List SV → List (Option SB) → Out
  | [.agg [.int .i64 a, .int .i64 b, .int .i64 c, .int .i64 d, .bool _]], [] => some (.int .i64 (gateW a b c d), [], [])
  | _, _ => none
/-! ### Heights. -/
def rhR : List (Nat × Keep) := [(0, ⟨[1, 2, 3], [0], [1, 2, 3, 4], 1, []⟩), (2, ⟨[1, 2, 4], [0], [1, 2, 3, 4], 1, []⟩)]
def rhS (t : Trk) (i : Int) : St := ⟨[(1, .ptr 0 0), (2, .bool false), (3, .int .i64 i)], [(0, some (.cells 34 (trkC t)))], 1, [1, 2, 3, 4], 87⟩
def rhT (t : Trk) (i : Int) : St := ⟨[(1, .ptr 0 0), (2, .bool false), (4, .int .i64 i)], [(0, some (.cells 34 (trkC t)))], 1, [1, 2, 3, 4], 87⟩
noncomputable abbrev rhE : Env := envL rhR (fun _ => 0) s1 1
noncomputable abbrev rhF : Func := Tryz.f103
theorem rh_entry (t : Trk) (K : KC) : runL rhR (fun _ => 0) s1 2 103 [.agg (trkC t)] [] K =
  (∃ q_, loopE rhE (keepW rhR 0) rhF [1, 0, 1, 0] 0 0 K q_ { tmps := [(1, SV.ptr 0 0), (2, SV.bool false), (3, SV.int .i64 0)], store := [(0, some (SB.cells 34 (trkC t)))], nxt := 1, dirty := [1, 2, 3, 4], nt := 87 }) := by kernel_rfl
theorem rh_round (t : Trk) (i : Nat) (K : Ex → St → Prop) : roundE rhE (keepW rhR 0) rhF [1, 0, 1, 0] 0 K (rhS t i) =
  (Br (decide ((↑i : Int) < (↑t.nh : Int))) (Br (decide (0 ≤ (↑i : Int)) && decide ((↑i : Int) < (↑t.nh : Int))) (Br (!inR (t.h (↑i : Int).toNat) (-2199023255552) 2199023255552) (K Ex.ret { tmps := [(1, SV.ptr 0 0), (2, SV.bool false), (3, SV.int .i64 (↑i : Int))], store := [(0, some (SB.cells 34 (trkC t)))], nxt := 1, dirty := [1, 2, 3, 4], nt := 87 }) (K Ex.normal { tmps := [(1, SV.ptr 0 0), (2, SV.bool false), (3, SV.int .i64 (IntKind.i64.wrap ((↑i : Int) + 1)))], store := [(0, some (SB.cells 34 (trkC t)))], nxt := 1, dirty := [1, 2, 3, 4], nt := 87 })) (False)) (K (Ex.exit 0) { tmps := [(1, SV.ptr 0 0), (2, SV.bool false), (3, SV.int .i64 (↑i : Int))], store := [(0, some (SB.cells 34 (trkC t)))], nxt := 1, dirty := [1, 2, 3, 4], nt := 87 })) := by kernel_rfl
theorem rh_ret (t : Trk) (i : Int) (K : KC) : afterE rhE (keepW rhR 0) rhF [1, 0, 1, 0] 0 K .ret (rhS t i) =
  (K (SV.bool false) [] []) := by kernel_rfl
theorem rh_after (t : Trk) (i : Int) (K : KC) : afterE rhE (keepW rhR 0) rhF [1, 0, 1, 0] 0 K (.exit 0) (rhS t i) =
  (∃ q_, loopE rhE (keepW rhR 0) rhF [1, 1, 0, 1, 0] 2 0 K q_ { tmps := [(1, SV.ptr 0 0), (2, SV.bool false), (4, SV.int .i64 0)], store := [(0, some (SB.cells 34 (trkC t)))], nxt := 1, dirty := [1, 2, 3, 4], nt := 87 }) := by kernel_rfl
theorem rh_round2 (t : Trk) (i : Nat) (K : Ex → St → Prop) : roundE rhE (keepW rhR 0) rhF [1, 1, 0, 1, 0] 2 K (rhT t i) =
  (Br (decide ((↑i : Int) < (↑t.nh : Int))) (Br (IntKind.i64.wrap (t.cols + 1) != 0) (Br (decide ((↑i : Int).tmod (IntKind.i64.wrap (t.cols + 1)) < t.cols)) (Br (decide (0 ≤ IntKind.i64.wrap ((↑i : Int) + 1)) && decide (IntKind.i64.wrap ((↑i : Int) + 1) < (↑t.nh : Int))) (Br (decide (0 ≤ (↑i : Int)) && decide ((↑i : Int) < (↑t.nh : Int))) (Br (!inR (IntKind.i64.wrap (t.h (IntKind.i64.wrap ((↑i : Int) + 1)).toNat - t.h (↑i : Int).toNat)) (IntKind.i64.wrap (0 - t.cell)) t.cell) (K Ex.ret { tmps := [(1, SV.ptr 0 0), (2, SV.bool false), (4, SV.int .i64 (↑i : Int))], store := [(0, some (SB.cells 34 (trkC t)))], nxt := 1, dirty := [1, 2, 3, 4], nt := 87 }) (Br (IntKind.i64.wrap (t.cols + 1) != 0) (Br (decide (IntKind.i64.wrap ((↑i : Int).tdiv (IntKind.i64.wrap (t.cols + 1))) < t.rows)) (Br (decide (0 ≤ IntKind.i64.wrap (IntKind.i64.wrap ((↑i : Int) + t.cols) + 1)) && decide (IntKind.i64.wrap (IntKind.i64.wrap ((↑i : Int) + t.cols) + 1) < (↑t.nh : Int))) (Br (decide (0 ≤ (↑i : Int)) && decide ((↑i : Int) < (↑t.nh : Int))) (Br (!inR (IntKind.i64.wrap (t.h (IntKind.i64.wrap (IntKind.i64.wrap ((↑i : Int) + t.cols) + 1)).toNat - t.h (↑i : Int).toNat)) (IntKind.i64.wrap (0 - t.cell)) t.cell) (K Ex.ret { tmps := [(1, SV.ptr 0 0), (2, SV.bool false), (4, SV.int .i64 (↑i : Int))], store := [(0, some (SB.cells 34 (trkC t)))], nxt := 1, dirty := [1, 2, 3, 4], nt := 87 }) (K Ex.normal { tmps := [(1, SV.ptr 0 0), (2, SV.bool false), (4, SV.int .i64 (IntKind.i64.wrap ((↑i : Int) + 1)))], store := [(0, some (SB.cells 34 (trkC t)))], nxt := 1, dirty := [1, 2, 3, 4], nt := 87 })) (False)) (False)) (K Ex.normal { tmps := [(1, SV.ptr 0 0), (2, SV.bool false), (4, SV.int .i64 (IntKind.i64.wrap ((↑i : Int) + 1)))], store := [(0, some (SB.cells 34 (trkC t)))], nxt := 1, dirty := [1, 2, 3, 4], nt := 87 })) (False))) (False)) (False)) (Br (IntKind.i64.wrap (t.cols + 1) != 0) (Br (decide (IntKind.i64.wrap ((↑i : Int).tdiv (IntKind.i64.wrap (t.cols + 1))) < t.rows)) (Br (decide (0 ≤ IntKind.i64.wrap (IntKind.i64.wrap ((↑i : Int) + t.cols) + 1)) && decide (IntKind.i64.wrap (IntKind.i64.wrap ((↑i : Int) + t.cols) + 1) < (↑t.nh : Int))) (Br (decide (0 ≤ (↑i : Int)) && decide ((↑i : Int) < (↑t.nh : Int))) (Br (!inR (IntKind.i64.wrap (t.h (IntKind.i64.wrap (IntKind.i64.wrap ((↑i : Int) + t.cols) + 1)).toNat - t.h (↑i : Int).toNat)) (IntKind.i64.wrap (0 - t.cell)) t.cell) (K Ex.ret { tmps := [(1, SV.ptr 0 0), (2, SV.bool false), (4, SV.int .i64 (↑i : Int))], store := [(0, some (SB.cells 34 (trkC t)))], nxt := 1, dirty := [1, 2, 3, 4], nt := 87 }) (K Ex.normal { tmps := [(1, SV.ptr 0 0), (2, SV.bool false), (4, SV.int .i64 (IntKind.i64.wrap ((↑i : Int) + 1)))], store := [(0, some (SB.cells 34 (trkC t)))], nxt := 1, dirty := [1, 2, 3, 4], nt := 87 })) (False)) (False)) (K Ex.normal { tmps := [(1, SV.ptr 0 0), (2, SV.bool false), (4, SV.int .i64 (IntKind.i64.wrap ((↑i : Int) + 1)))], store := [(0, some (SB.cells 34 (trkC t)))], nxt := 1, dirty := [1, 2, 3, 4], nt := 87 })) (False))) (False)) (K (Ex.exit 2) { tmps := [(1, SV.ptr 0 0), (2, SV.bool false), (4, SV.int .i64 (↑i : Int))], store := [(0, some (SB.cells 34 (trkC t)))], nxt := 1, dirty := [1, 2, 3, 4], nt := 87 })) := by kernel_rfl
theorem rh_ret2 (t : Trk) (i : Int) (K : KC) : afterE rhE (keepW rhR 0) rhF [1, 1, 0, 1, 0] 0 K .ret (rhT t i) =
  (K (SV.bool false) [] []) := by kernel_rfl
theorem rh_after2 (t : Trk) (i : Int) (K : KC) : afterE rhE (keepW rhR 0) rhF [1, 1, 0, 1, 0] 0 K (.exit 2) (rhT t i) =
  (K (SV.bool true) [] []) := by kernel_rfl
def heightsB (t : Trk) : Bool := !(anyB (fun i => sizeP 2199023255552 (t.h i)) t.nh || anyB (steepB t.h t.cell (t.cols + 1).toNat t.nh) t.nh)
theorem rh_law (t : Trk) (hc : countedB t.cols t.rows t.nh t.ng t.nk = true) (K : KC) (hK : K (.bool (heightsB t)) [] []) : runL rhR (fun _ => 0) s1 2 103 [.agg (trkC t)] [] K := by
  obtain ⟨⟨⟨a1, a2⟩, ⟨a3, a4⟩, _⟩, _, _, hn, hn2, _⟩ := counted_facts hc
  rw [rh_entry]
  unfold heightsB at hK
  refine scan_loop (fun i : Nat => rhS t i) t.nh (fun i => sizeP 2199023255552 (t.h i)) (fun i => afterE rhE (keepW rhR 0) rhF [1, 0, 1, 0] 0 K .ret (rhS t i)) (afterE rhE (keepW rhR 0) rhF [1, 0, 1, 0] 0 K (.exit 0) (rhS t t.nh)) (fun i hi X h1 h2 => ?_) (fun X h => ?_) (fun i hi h _ => ?_) (fun h => ?_)
  · rw [rh_round, wi64_succ hi (by omega)]
    simp only [Int.toNat_natCast]
    refine Br.of (fun _ => Br.of (fun _ => Br.of (fun c => h1 ?_) fun c => h2 ?_) fun c => in_f hi c) fun c => lt_f hi c
    · rw [← inR_size]; exact c
    · rw [← inR_size]; exact c
  · rw [rh_round]
    exact Br.of (fun c => lt_t c) fun _ => h
  · show afterE _ _ _ _ _ _ _ _
    rw [rh_ret]
    rw [show anyB (fun i => sizeP 2199023255552 (t.h i)) t.nh = true from anyB_iff.2 ⟨i, hi, h⟩] at hK
    exact hK
  · rw [rh_after]
    rw [show anyB (fun i => sizeP 2199023255552 (t.h i)) t.nh = false from anyB_false.2 h, Bool.false_or] at hK
    refine scan_loop (fun i : Nat => rhT t i) t.nh (steepB t.h t.cell (t.cols + 1).toNat t.nh) (fun i => afterE rhE (keepW rhR 0) rhF [1, 1, 0, 1, 0] 0 K .ret (rhT t i)) (afterE rhE (keepW rhR 0) rhF [1, 1, 0, 1, 0] 0 K (.exit 2) (rhT t t.nh)) (fun i hi X h1 h2 => ?_) (fun X h => ?_) (fun i hi h _ => ?_) (fun h => ?_)
    · have hw : t.cols + 1 = (((t.cols + 1).toNat : Nat) : Int) := (Int.toNat_of_nonneg (by omega)).symm
      have hR : t.rows = (((t.rows + 1).toNat - 1 : Nat) : Int) := by omega
      have hcl : t.cols = (((t.cols + 1).toNat - 1 : Nat) : Int) := by omega
      generalize hwd : (t.cols + 1).toNat = w at *
      generalize hRd : (t.rows + 1).toNat = R at *
      have hw1 : 1 ≤ w := by omega
      have hend : (i + 1) % w ≠ 0 → i + 1 < t.nh := fun h1 => by
        rcases Nat.lt_or_eq_of_le (Nat.succ_le_of_lt hi) with h2 | h2
        · exact h2
        · rw [show i + 1 = t.nh from h2, hn, Nat.mul_mod_right] at h1
          exact absurd rfl h1
      have hdv : i / w ≤ i := Nat.div_le_self i w
      have e1 : decide (((i % w : Nat) : Int) < t.cols) = decide ((i + 1) % w ≠ 0) := by
        rw [← mod_last hw1, hcl, decide_eq_decide]; omega
      have e2 : decide (((i / w : Nat) : Int) < t.rows) = decide (i + w < t.nh) := by
        rw [hn, ← div_last hw1, hR, decide_eq_decide]; omega
      have e3 : IntKind.i64.wrap (IntKind.i64.wrap ((i : Int) + t.cols) + 1) = ((i + w : Nat) : Int) := by
        rw [hcl, show (i : Int) + ((w - 1 : Nat) : Int) = ((i + (w - 1) : Nat) : Int) by omega, wi64_nat (by omega), show ((i + (w - 1) : Nat) : Int) + 1 = ((i + w : Nat) : Int) by omega, wi64_nat (by omega)]
      rw [rh_round2, wi64_succ hi (by omega), hw, wi64_nat (n := w) (by omega), tmod_nat, tdiv_nat, wi64_nat (n := i / w) (by omega), e1, e2, e3, bne_nat]
      simp only [Int.toNat_natCast, inR_size]
      unfold steepB at h1 h2
      refine Br.of (fun _ => Br.of (fun _ => Br.of (fun c1 => Br.of (fun _ => Br.of (fun _ => Br.of (fun c2 => ?_) fun c2 => Br.of (fun _ => Br.of (fun c3 => Br.of (fun _ => Br.of (fun _ => Br.of (fun c4 => ?_) fun c4 => ?_) fun c => in_f hi c) fun c => ?_) fun c3 => ?_) fun c => ?_) fun c => in_f hi c) fun c => ?_)
        fun c1 => Br.of (fun _ => Br.of (fun c3 => Br.of (fun _ => Br.of (fun _ => Br.of (fun c4 => ?_) fun c4 => ?_) fun c => in_f hi c) fun c => ?_) fun c3 => ?_) fun c => ?_) fun c => ?_) fun c => lt_f hi c
      · exact h1 (by rw [c1, c2]; rfl)
      · exact h1 (by rw [c3, c4, Bool.true_and, Bool.or_true])
      · exact h2 (by rw [c2, c4, Bool.and_false, Bool.and_false]; rfl)
      · exact in_f (of_decide_eq_true c3) c
      · exact h2 (by rw [c2, c3, Bool.and_false]; rfl)
      · have := of_decide_eq_false c; omega
      · exact in_f (hend (of_decide_eq_true c1)) c
      · exact h1 (by rw [c3, c4, Bool.true_and, Bool.or_true])
      · exact h2 (by rw [c1, c4, Bool.and_false]; rfl)
      · exact in_f (of_decide_eq_true c3) c
      · exact h2 (by rw [c1, c3]; rfl)
      · have := of_decide_eq_false c; omega
      · have := of_decide_eq_false c; omega
    · rw [rh_round2]
      exact Br.of (fun c => lt_t c) fun _ => h
    · show afterE _ _ _ _ _ _ _ _
      rw [rh_ret2]
      rw [show anyB (steepB t.h t.cell (t.cols + 1).toNat t.nh) t.nh = true from anyB_iff.2 ⟨i, hi, h⟩] at hK
      exact hK
    · rw [rh_after2]
      rw [show anyB (steepB t.h t.cell (t.cols + 1).toNat t.nh) t.nh = false from anyB_false.2 h] at hK
      exact hK
def cHeights : List SV → List (Option SB) → KC → Prop
  | [.agg [.int .i64 a0, .int .i64 a1, .int .i64 a2, .int .i64 a3, .int .i64 a4, .int .i64 a5, .ro nh 1 h, .ro ng 1 g, .ro nk 3 kg, .ro nl 2 l, .ro nr 1 rl, .ro nt 5 gt, .int .i64 sx, .int .i64 sy, .int .u32 hd, .int .i64 lp]], [], K => trkS h g kg l rl gt ∧ countedB a2 a3 nh ng nk = true ∧ K (.bool (heightsB (trkOf a0 a1 a2 a3 a4 a5 nh h ng g nk kg nl l nr rl nt gt sx sy hd lp))) [] []
  | _, _, _ => False
theorem heights_sat (xs : List SV) (σ : List (Option SB)) : Sat Tryz.prog 103 xs σ (cHeights xs σ) := by
  intro K hK
  unfold cHeights at hK
  split at hK
  · rw [trkC_of hK.1]
    exact calls_sat (env := tab.env s1 (fun _ => 0) (fun _ => false)) ⟨tab.htt, s1.ok⟩ tab.mixed (fun n => keepW_weaker n rhR) tab.hft 2 _ _ _ K (rh_law _ (by exact hK.2.1) K hK.2.2)
  · exact hK.elim
noncomputable def s2 : Know Tryz.prog := ((s1).add 107 (one cRGate) (one_sat fun xs σ v σ' d h => by
    unfold cRGate at h; split at h <;> cases h; first | exact rgate_ok | exact rgate_ok _ | exact rgate_ok _ _ | exact rgate_ok _ _ _ | exact rgate_ok _ _ _ _ | exact rgate_ok _ _ _ _ _ | exact rgate_ok _ _ _ _ _ _ | exact rgate_ok _ _ _ _ _ _ _ | exact rgate_ok _ _ _ _ _ _ _ _ | exact rgate_ok _ _ _ _ _ _ _ _ _ | exact rgate_ok _ _ _ _ _ _ _ _ _ _ | exact rgate_ok _ _ _ _ _ _ _ _ _ _ _)).add 103 cHeights heights_sat
def rfR : List (Nat × Keep) := [(0, ⟨[1, 2, 3], [0], [1, 2, 3, 4], 1, []⟩), (2, ⟨[1, 2, 4], [0], [1, 2, 3, 4], 1, []⟩)]
def rfS (t : Trk) (r : Int) (i : Int) : St := ⟨[(1, .ptr 0 0), (2, .int .i64 r), (3, .int .i64 i)], [(0, some (.cells 34 (trkC t)))], 1, [1, 2, 3, 4], 80⟩
def rfT (t : Trk) (r : Int) (i : Int) : St := ⟨[(1, .ptr 0 0), (2, .int .i64 r), (4, .int .i64 i)], [(0, some (.cells 34 (trkC t)))], 1, [1, 2, 3, 4], 80⟩
noncomputable abbrev rfE : Env := envL rfR (fun _ => 0) s2 1
noncomputable abbrev rfF : Func := Tryz.f76
theorem rf_entry (t : Trk) (K : KC) : runL rfR (fun _ => 0) s2 2 76 [.agg (trkC t)] [] K =
  ((trkS (oneG t.h) (oneG t.g) (kindG t) (ptsG t.lx t.ly) (railG t) (gateG t)) ∧ (Br (!countedB t.cols t.rows t.nh t.ng t.nk) (K (SV.int .i64 42) [] []) (Br (!inR t.cell 17179869184 274877906944) (K (SV.int .i64 40) [] []) (Br (!inR t.cx (-140737488355328) 140737488355328) (K (SV.int .i64 40) [] []) (Br (!inR t.cy (-140737488355328) 140737488355328) (K (SV.int .i64 40) [] []) ((trkS (oneG t.h) (oneG t.g) (kindG t) (ptsG t.lx t.ly) (railG t) (gateG t)) ∧ ((countedB t.cols t.rows t.nh t.ng t.nk = true) ∧ (Br (!heightsB t) (K (SV.int .i64 40) [] []) (∃ q_, loopE rfE (keepW rfR 0) rfF [1, 1, 1, 0, 1, 0] 0 0 K q_ { tmps := [(1, SV.ptr 0 0), (2, SV.int .i64 0), (3, SV.int .i64 0)], store := [(0, some (SB.cells 34 (trkC t)))], nxt := 1, dirty := [1, 2, 3, 4], nt := 80 }))))))))) := by kernel_rfl
theorem rf_round (t : Trk) (i : Nat) (K : Ex → St → Prop) : roundE rfE (keepW rfR 0) rfF [1, 1, 1, 0, 1, 0] 0 K (rfS t 0 i) =
  (Br (decide ((↑i : Int) < (↑t.ng : Int))) (Br (decide (0 ≤ (↑i : Int)) && decide ((↑i : Int) < (↑t.ng : Int))) (Br (decide (t.g (↑i : Int).toNat < 0)) (K Ex.ret { tmps := [(1, SV.ptr 0 0), (2, SV.int .i64 40), (3, SV.int .i64 (↑i : Int))], store := [(0, some (SB.cells 34 (trkC t)))], nxt := 1, dirty := [1, 2, 3, 4], nt := 80 }) (Br (decide (0 ≤ (↑i : Int)) && decide ((↑i : Int) < (↑t.ng : Int))) (Br (decide (t.g (↑i : Int).toNat ≥ (↑t.nk : Int))) (K Ex.ret { tmps := [(1, SV.ptr 0 0), (2, SV.int .i64 40), (3, SV.int .i64 (↑i : Int))], store := [(0, some (SB.cells 34 (trkC t)))], nxt := 1, dirty := [1, 2, 3, 4], nt := 80 }) (K Ex.normal { tmps := [(1, SV.ptr 0 0), (2, SV.int .i64 0), (3, SV.int .i64 (IntKind.i64.wrap ((↑i : Int) + 1)))], store := [(0, some (SB.cells 34 (trkC t)))], nxt := 1, dirty := [1, 2, 3, 4], nt := 80 })) (False))) (False)) (K (Ex.exit 0) { tmps := [(1, SV.ptr 0 0), (2, SV.int .i64 0), (3, SV.int .i64 (↑i : Int))], store := [(0, some (SB.cells 34 (trkC t)))], nxt := 1, dirty := [1, 2, 3, 4], nt := 80 })) := by kernel_rfl
theorem rf_ret (t : Trk) (r i : Int) (K : KC) : afterE rfE (keepW rfR 0) rfF [1, 1, 1, 0, 1, 0] 0 K .ret (rfS t r i) =
  (K (SV.int .i64 r) [] []) := by kernel_rfl
theorem rf_after (t : Trk) (i : Int) (K : KC) : afterE rfE (keepW rfR 0) rfF [1, 1, 1, 0, 1, 0] 0 K (.exit 0) (rfS t 0 i) =
  (∃ q_, loopE rfE (keepW rfR 0) rfF [1, 1, 1, 1, 0, 1, 0] 2 0 K q_ { tmps := [(1, SV.ptr 0 0), (2, SV.int .i64 0), (4, SV.int .i64 0)], store := [(0, some (SB.cells 34 (trkC t)))], nxt := 1, dirty := [1, 2, 3, 4], nt := 80 }) := by kernel_rfl
theorem rf_round2 (t : Trk) (i : Nat) (K : Ex → St → Prop) : roundE rfE (keepW rfR 0) rfF [1, 1, 1, 1, 0, 1, 0] 2 K (rfT t 0 i) =
  (Br (decide ((↑i : Int) < (↑t.nk : Int))) (Br (decide (0 ≤ (↑i : Int)) && decide ((↑i : Int) < (↑t.nk : Int))) (Br (!inR (t.kg (↑i : Int).toNat) 0 8589934592) (K Ex.ret { tmps := [(1, SV.ptr 0 0), (2, SV.int .i64 40), (4, SV.int .i64 (↑i : Int))], store := [(0, some (SB.cells 34 (trkC t)))], nxt := 1, dirty := [1, 2, 3, 4], nt := 80 }) (Br (decide (0 ≤ (↑i : Int)) && decide ((↑i : Int) < (↑t.nk : Int))) (Br (!inR (t.kd (↑i : Int).toNat) 0 4294967296) (K Ex.ret { tmps := [(1, SV.ptr 0 0), (2, SV.int .i64 40), (4, SV.int .i64 (↑i : Int))], store := [(0, some (SB.cells 34 (trkC t)))], nxt := 1, dirty := [1, 2, 3, 4], nt := 80 }) (K Ex.normal { tmps := [(1, SV.ptr 0 0), (2, SV.int .i64 0), (4, SV.int .i64 (IntKind.i64.wrap ((↑i : Int) + 1)))], store := [(0, some (SB.cells 34 (trkC t)))], nxt := 1, dirty := [1, 2, 3, 4], nt := 80 })) (False))) (False)) (K (Ex.exit 2) { tmps := [(1, SV.ptr 0 0), (2, SV.int .i64 0), (4, SV.int .i64 (↑i : Int))], store := [(0, some (SB.cells 34 (trkC t)))], nxt := 1, dirty := [1, 2, 3, 4], nt := 80 })) := by kernel_rfl
theorem rf_ret2 (t : Trk) (r i : Int) (K : KC) : afterE rfE (keepW rfR 0) rfF [1, 1, 1, 1, 0, 1, 0] 0 K .ret (rfT t r i) =
  (K (SV.int .i64 r) [] []) := by kernel_rfl
theorem rf_after2 (t : Trk) (i : Int) (K : KC) : afterE rfE (keepW rfR 0) rfF [1, 1, 1, 1, 0, 1, 0] 0 K (.exit 2) (rfT t 0 i) =
  (K (SV.int .i64 0) [] []) := by kernel_rfl
theorem size_in (m x : Int) (l : Int) (h : IntKind.i64.wrap (0 - m) = l) : (!inR x l m) = sizeP m x := by rw [← h]; exact inR_size x m
theorem rf_law (t : Trk) (K : KC) (hK : K (.int .i64 (fieldV t)) [] []) : runL rfR (fun _ => 0) s2 2 76 [.agg (trkC t)] [] K := by
  rw [rf_entry]
  unfold fieldV at hK
  refine ⟨trkS_of t, Br.of (fun c => ?_) fun c => ?_⟩
  · rw [Bool.not_eq_true'] at c
    rw [c] at hK; exact hK
  rw [Bool.not_eq_false'] at c
  rw [c] at hK
  obtain ⟨⟨_, _, _, hk⟩, _, _, _, _, hg⟩ := counted_facts c
  simp only [cond_true] at hK
  have bad : fieldBad t = true → K (.int .i64 40) [] [] := fun h => by rw [h] at hK; exact hK
  have good : fieldBad t = false → K (.int .i64 0) [] [] := fun h => by rw [h] at hK; exact hK
  have hb : fieldBad t = ((!inR t.cell 17179869184 274877906944) || ((!inR t.cx (-140737488355328) 140737488355328) || ((!inR t.cy (-140737488355328) 140737488355328) || ((!heightsB t) || (anyB (fun i => noneP t.nk (t.g i)) t.ng || anyB (fun i => oddP (t.kg i) (t.kd i)) t.nk))))) := by
    rw [size_in 140737488355328 t.cx (-140737488355328) rfl, size_in 140737488355328 t.cy (-140737488355328) rfl]
    unfold fieldBad heightsB inR
    grind
  rw [hb] at bad good
  refine Br.of (fun c1 => bad (by rw [c1]; rfl)) fun c1 => Br.of (fun c2 => bad (by rw [c1, c2]; rfl)) fun c2 => Br.of (fun c3 => bad (by rw [c1, c2, c3]; rfl)) fun c3 => ⟨trkS_of t, c, Br.of (fun c4 => bad (by rw [c1, c2, c3, c4]; rfl)) fun c4 => ?_⟩
  rw [c1, c2, c3, c4] at bad good
  simp only [Bool.false_or] at bad good
  refine scan_loop (fun i : Nat => rfS t 0 i) t.ng (fun i => noneP t.nk (t.g i)) (fun i => afterE rfE (keepW rfR 0) rfF [1, 1, 1, 0, 1, 0] 0 K .ret (rfS t 40 i)) (afterE rfE (keepW rfR 0) rfF [1, 1, 1, 0, 1, 0] 0 K (.exit 0) (rfS t 0 t.ng)) (fun i hi X h1 h2 => ?_) (fun X h => ?_) (fun i hi h _ => ?_) (fun h => ?_)
  · rw [rf_round, wi64_succ hi (by omega)]
    simp only [Int.toNat_natCast]
    unfold noneP at h1 h2
    exact Br.of (fun _ => Br.of (fun _ => Br.of (fun c => h1 (by rw [c]; rfl)) fun c => Br.of (fun _ => Br.of (fun d => h1 (by rw [c, d]; rfl)) fun d => h2 (by rw [c, d]; rfl)) fun c => in_f hi c) fun c => in_f hi c) fun c => lt_f hi c
  · rw [rf_round]
    exact Br.of (fun c => lt_t c) fun _ => h
  · show afterE _ _ _ _ _ _ _ _
    rw [rf_ret]
    exact bad (by rw [show anyB (fun i => noneP t.nk (t.g i)) t.ng = true from anyB_iff.2 ⟨i, hi, h⟩]; rfl)
  · rw [rf_after]
    rw [show anyB (fun i => noneP t.nk (t.g i)) t.ng = false from anyB_false.2 h] at bad good
    refine scan_loop (fun i : Nat => rfT t 0 i) t.nk (fun i => oddP (t.kg i) (t.kd i)) (fun i => afterE rfE (keepW rfR 0) rfF [1, 1, 1, 1, 0, 1, 0] 0 K .ret (rfT t 40 i)) (afterE rfE (keepW rfR 0) rfF [1, 1, 1, 1, 0, 1, 0] 0 K (.exit 2) (rfT t 0 t.nk)) (fun i hi X h1 h2 => ?_) (fun X h => ?_) (fun i hi h _ => ?_) (fun h => ?_)
    · rw [rf_round2, wi64_succ hi (by omega)]
      simp only [Int.toNat_natCast]
      have ho : oddP (t.kg i) (t.kd i) = ((!inR (t.kg i) 0 8589934592) || (!inR (t.kd i) 0 4294967296)) := by unfold oddP inR; grind
      rw [ho] at h1 h2
      exact Br.of (fun _ => Br.of (fun _ => Br.of (fun c => h1 (by rw [c]; rfl)) fun c => Br.of (fun _ => Br.of (fun d => h1 (by rw [c, d]; rfl)) fun d => h2 (by rw [c, d]; rfl)) fun c => in_f hi c) fun c => in_f hi c) fun c => lt_f hi c
    · rw [rf_round2]
      exact Br.of (fun c => lt_t c) fun _ => h
    · show afterE _ _ _ _ _ _ _ _
      rw [rf_ret2]
      exact bad (by rw [show anyB (fun i => oddP (t.kg i) (t.kd i)) t.nk = true from anyB_iff.2 ⟨i, hi, h⟩]; rfl)
    · rw [rf_after2]
      exact good (by rw [show anyB (fun i => oddP (t.kg i) (t.kd i)) t.nk = false from anyB_false.2 h]; rfl)
def cRField : List SV → List (Option SB) → KC → Prop
  | [.agg [.int .i64 a0, .int .i64 a1, .int .i64 a2, .int .i64 a3, .int .i64 a4, .int .i64 a5, .ro nh 1 h, .ro ng 1 g, .ro nk 3 kg, .ro nl 2 l, .ro nr 1 rl, .ro nt 5 gt, .int .i64 sx, .int .i64 sy, .int .u32 hd, .int .i64 lp]], [], K => trkS h g kg l rl gt ∧ K (.int .i64 (fieldV (trkOf a0 a1 a2 a3 a4 a5 nh h ng g nk kg nl l nr rl nt gt sx sy hd lp))) [] []
  | _, _, _ => False
theorem rfield_sat (xs : List SV) (σ : List (Option SB)) : Sat Tryz.prog 76 xs σ (cRField xs σ) := by
  intro K hK
  unfold cRField at hK
  split at hK
  · rw [trkC_of hK.1]
    exact calls_sat (env := tab.env s2 (fun _ => 0) (fun _ => false)) ⟨tab.htt, s2.ok⟩ tab.mixed (fun n => keepW_weaker n rfR) tab.hft 2 _ _ _ K (rf_law _ K hK.2)
  · exact hK.elim
end Go.Proofs.YtbedljhbakdghaaGreatDoor
