import Derived.Test.YthnikhkcnapcaaaDoorTm
import Derived.Test.YthnikhkcnapcaaaDoorSeTrk
namespace Go.Proofs.YthnikhkcnapcaaaDoor
open Go.Se
set_option maxRecDepth 100000
noncomputable def v1 : Know Tryd.prog := ((((((q5).add 6 cFew14 few_sat).add 7 cBars bars_sat).add 8 cBars rbars_sat).add 10 cTRight tright_sat).add 11 (one cPBey) (one_sat fun xs σ v σ' d h => by
    unfold cPBey at h; split at h <;> cases h; first | exact pbey_ok | exact pbey_ok _ | exact pbey_ok _ _ | exact pbey_ok _ _ _ | exact pbey_ok _ _ _ _ | exact pbey_ok _ _ _ _ _ | exact pbey_ok _ _ _ _ _ _ | exact pbey_ok _ _ _ _ _ _ _ | exact pbey_ok _ _ _ _ _ _ _ _ | exact pbey_ok _ _ _ _ _ _ _ _ _ | exact pbey_ok _ _ _ _ _ _ _ _ _ _ | exact pbey_ok _ _ _ _ _ _ _ _ _ _ _)).add 9 (one cAwake) (one_sat fun xs σ v σ' d h => by
    unfold cAwake at h; split at h <;> cases h; first | exact awake_ok | exact awake_ok _ | exact awake_ok _ _ | exact awake_ok _ _ _ | exact awake_ok _ _ _ _ | exact awake_ok _ _ _ _ _ | exact awake_ok _ _ _ _ _ _ | exact awake_ok _ _ _ _ _ _ _ | exact awake_ok _ _ _ _ _ _ _ _ | exact awake_ok _ _ _ _ _ _ _ _ _ | exact awake_ok _ _ _ _ _ _ _ _ _ _ | exact awake_ok _ _ _ _ _ _ _ _ _ _ _)
def lbR : List (Nat × Keep) := [(0, ⟨[2, 3, 4, 5], [], [1, 2, 3, 4], 1, []⟩)]
def lbS (L : List Bar) (i : Int) : St := ⟨[(2, .bool false), (3, .ro L.length 5 (barG L)), (4, .ro L.length 5 (barG L)), (5, .int .i64 i)], [], 1, [1, 2, 3, 4], 34⟩
noncomputable abbrev lbE : Env := envL lbR (fun _ => 0) v1 1
noncomputable abbrev lbF : Func := Tryd.f3
theorem lb_entry (t : Trk) (K : KC) : runL lbR (fun _ => 0) v1 2 3 [.agg (trkC t)] [] K =
  ((trkS (oneG t.h) (oneG t.g) (kindG t) (ptsG t.lx t.ly) (railG t) (gateG t)) ∧ (Br (!fewB t) (K (SV.bool true) [] []) ((trkS (oneG t.h) (oneG t.g) (kindG t) (ptsG t.lx t.ly) (railG t) (gateG t)) ∧ ((smallC t.nr (railG t)) ∧ ((trkS (oneG t.h) (oneG t.g) (kindG t) (ptsG t.lx t.ly) (railG t) (gateG t)) ∧ ((smallC t.nr (railG t)) ∧ (Br ((↑(barL t).length : Int) != (↑(barL t).length : Int)) (K (SV.bool false) [] []) (∃ q_, loopE lbE (keepW lbR 0) lbF [1, 1, 1, 1, 1, 0, 1, 0] 0 0 K q_ { tmps := [(2, SV.bool false), (3, SV.ro (barL t).length 5 (barG (barL t))), (4, SV.ro (barL t).length 5 (barG (barL t))), (5, SV.int IntKind.i64 0)], store := [], nxt := 1, dirty := [1, 2, 3, 4], nt := 34 })))))))) := by kernel_rfl
theorem lb_round (L : List Bar) (i : Nat) (K : Ex → St → Prop) : roundE lbE (keepW lbR 0) lbF [1, 1, 1, 1, 1, 0, 1, 0] 0 K (lbS L i) =
  (Br (decide ((↑i : Int) < (↑L.length : Int))) (Br (decide (0 ≤ (↑i : Int)) && decide ((↑i : Int) < (↑L.length : Int))) (Br (decide (0 ≤ (↑i : Int)) && decide ((↑i : Int) < (↑L.length : Int))) (Br (!((L.getD (↑i : Int).toNat bar0).fst == (L.getD (↑i : Int).toNat bar0).fst && (L.getD (↑i : Int).toNat bar0).snd.fst == (L.getD (↑i : Int).toNat bar0).snd.fst && ((L.getD (↑i : Int).toNat bar0).snd.snd.fst == (L.getD (↑i : Int).toNat bar0).snd.snd.fst && (L.getD (↑i : Int).toNat bar0).snd.snd.snd.fst == (L.getD (↑i : Int).toNat bar0).snd.snd.snd.fst && (L.getD (↑i : Int).toNat bar0).snd.snd.snd.snd == (L.getD (↑i : Int).toNat bar0).snd.snd.snd.snd))) (K Ex.ret { tmps := [(2, SV.bool false), (3, SV.ro L.length 5 (barG L)), (4, SV.ro L.length 5 (barG L)), (5, SV.int IntKind.i64 (↑i : Int))], store := [], nxt := 1, dirty := [1, 2, 3, 4], nt := 34 }) (K Ex.normal { tmps := [(2, SV.bool false), (3, SV.ro L.length 5 (barG L)), (4, SV.ro L.length 5 (barG L)), (5, SV.int IntKind.i64 (IntKind.i64.wrap ((↑i : Int) + 1)))], store := [], nxt := 1, dirty := [1, 2, 3, 4], nt := 34 })) (False)) (False)) (K (Ex.exit 0) { tmps := [(2, SV.bool false), (3, SV.ro L.length 5 (barG L)), (4, SV.ro L.length 5 (barG L)), (5, SV.int IntKind.i64 (↑i : Int))], store := [], nxt := 1, dirty := [1, 2, 3, 4], nt := 34 })) := by kernel_rfl
theorem lb_after (L : List Bar) (i : Nat) (K : KC) : afterE lbE (keepW lbR 0) lbF [1, 1, 1, 1, 1, 0, 1, 0] 0 K (.exit 0) (lbS L i) =
  (K (SV.bool true) [] []) := by kernel_rfl
def lsR : List (Nat × Keep) := [(0, ⟨[1, 2, 5, 6], [0], [1, 2, 3, 4], 1, []⟩), (2, ⟨[1, 2, 8], [0], [1, 2, 3, 4], 1, []⟩)]
def lsS (t : Trk) (L : List Bar) (i : Int) : St := ⟨[(1, .ptr 0 0), (2, .bool false), (5, .ro L.length 5 (barG L)), (6, .int .i64 i)], [(0, some (.cells 34 (trkC t)))], 1, [1, 2, 3, 4], 92⟩
def lsT (t : Trk) (i : Int) : St := ⟨[(1, .ptr 0 0), (2, .bool false), (8, .int .i64 i)], [(0, some (.cells 34 (trkC t)))], 1, [1, 2, 3, 4], 92⟩
noncomputable abbrev lsE : Env := envL lsR (fun _ => 0) v1 1
noncomputable abbrev lsF : Func := Tryd.f4
theorem ls_entry (t : Trk) (K : KC) : runL lsR (fun _ => 0) v1 2 4 [.agg (trkC t)] [] K =
  ((trkS (oneG t.h) (oneG t.g) (kindG t) (ptsG t.lx t.ly) (railG t) (gateG t)) ∧ (Br (!fewB t) (K (SV.bool true) [] []) ((trkS (oneG t.h) (oneG t.g) (kindG t) (ptsG t.lx t.ly) (railG t) (gateG t)) ∧ ((smallC t.nr (railG t)) ∧ (Br ((rightV t).fst != 0) (K (SV.bool true) [] []) ((trkS (oneG t.h) (oneG t.g) (kindG t) (ptsG t.lx t.ly) (railG t) (gateG t)) ∧ ((smallC t.nr (railG t)) ∧ (∃ q_, loopE lsE (keepW lsR 0) lsF [1, 1, 1, 1, 1, 0, 1, 0] 0 0 K q_ { tmps := [(1, SV.ptr 0 0), (2, SV.bool false), (5, SV.ro (barL t).length 5 (barG (barL t))), (6, SV.int IntKind.i64 0)], store := [(0, some (SB.cells 34 (trkC t)))], nxt := 1, dirty := [1, 2, 3, 4], nt := 92 })))))))) := by kernel_rfl
theorem ls_round (t : Trk) (L : List Bar) (i : Nat) (K : Ex → St → Prop) : roundE lsE (keepW lsR 0) lsF [1, 1, 1, 1, 1, 0, 1, 0] 0 K (lsS t L i) =
  (Br (decide ((↑i : Int) < (↑L.length : Int))) (Br (decide (0 ≤ (↑i : Int)) && decide ((↑i : Int) < (↑L.length : Int))) (Br (decide (0 ≤ (↑i : Int)) && decide ((↑i : Int) < (↑L.length : Int))) (Br (decide (0 ≤ (↑i : Int)) && decide ((↑i : Int) < (↑L.length : Int))) (Br (decide (0 ≤ (↑i : Int)) && decide ((↑i : Int) < (↑L.length : Int))) (Br ((L.getD (↑i : Int).toNat bar0).fst == (L.getD (↑i : Int).toNat bar0).snd.snd.fst && (L.getD (↑i : Int).toNat bar0).snd.fst == (L.getD (↑i : Int).toNat bar0).snd.snd.snd.fst) (K Ex.ret { tmps := [(1, SV.ptr 0 0), (2, SV.bool false), (5, SV.ro L.length 5 (barG L)), (6, SV.int IntKind.i64 (↑i : Int))], store := [(0, some (SB.cells 34 (trkC t)))], nxt := 1, dirty := [1, 2, 3, 4], nt := 92 }) (Br (decide (beyV (L.getD (↑i : Int).toNat bar0).fst (L.getD (↑i : Int).toNat bar0).snd.fst (L.getD (↑i : Int).toNat bar0).snd.snd.fst (L.getD (↑i : Int).toNat bar0).snd.snd.snd.fst t.sx t.sy > 0)) (Br (decide (beyV (L.getD (↑i : Int).toNat bar0).fst (L.getD (↑i : Int).toNat bar0).snd.fst (L.getD (↑i : Int).toNat bar0).snd.snd.fst (L.getD (↑i : Int).toNat bar0).snd.snd.snd.fst t.sx t.sy ≤ 17179869184)) (K Ex.ret { tmps := [(1, SV.ptr 0 0), (2, SV.bool false), (5, SV.ro L.length 5 (barG L)), (6, SV.int IntKind.i64 (↑i : Int))], store := [(0, some (SB.cells 34 (trkC t)))], nxt := 1, dirty := [1, 2, 3, 4], nt := 92 }) (K Ex.normal { tmps := [(1, SV.ptr 0 0), (2, SV.bool false), (5, SV.ro L.length 5 (barG L)), (6, SV.int IntKind.i64 (IntKind.i64.wrap ((↑i : Int) + 1)))], store := [(0, some (SB.cells 34 (trkC t)))], nxt := 1, dirty := [1, 2, 3, 4], nt := 92 })) (K Ex.normal { tmps := [(1, SV.ptr 0 0), (2, SV.bool false), (5, SV.ro L.length 5 (barG L)), (6, SV.int IntKind.i64 (IntKind.i64.wrap ((↑i : Int) + 1)))], store := [(0, some (SB.cells 34 (trkC t)))], nxt := 1, dirty := [1, 2, 3, 4], nt := 92 }))) (False)) (False)) (False)) (False)) (K (Ex.exit 0) { tmps := [(1, SV.ptr 0 0), (2, SV.bool false), (5, SV.ro L.length 5 (barG L)), (6, SV.int IntKind.i64 (↑i : Int))], store := [(0, some (SB.cells 34 (trkC t)))], nxt := 1, dirty := [1, 2, 3, 4], nt := 92 })) := by kernel_rfl
theorem ls_after (t : Trk) (L : List Bar) (i : Nat) (K : KC) : afterE lsE (keepW lsR 0) lsF [1, 1, 1, 1, 1, 0, 1, 0] 0 K (.exit 0) (lsS t L i) =
  (∃ q_, loopE lsE (keepW lsR 0) lsF [1, 1, 1, 1, 1, 1, 0, 1, 0] 2 0 K q_ { tmps := [(1, SV.ptr 0 0), (2, SV.bool false), (8, SV.int IntKind.i64 0)], store := [(0, some (SB.cells 34 (trkC t)))], nxt := 1, dirty := [1, 2, 3, 4], nt := 92 }) := by kernel_rfl
theorem ls_round2 (t : Trk) (i : Nat) (K : Ex → St → Prop) : roundE lsE (keepW lsR 0) lsF [1, 1, 1, 1, 1, 1, 0, 1, 0] 2 K (lsT t i) =
  (Br (decide ((↑i : Int) < (↑t.nt : Int))) (Br (decide (0 ≤ (↑i : Int)) && decide ((↑i : Int) < (↑t.nt : Int))) (Br (decide (0 ≤ (↑i : Int)) && decide ((↑i : Int) < (↑t.nt : Int))) (Br (t.ax (↑i : Int).toNat == t.bx (↑i : Int).toNat && t.ay (↑i : Int).toNat == t.sb (↑i : Int).toNat) (K Ex.ret { tmps := [(1, SV.ptr 0 0), (2, SV.bool false), (8, SV.int IntKind.i64 (↑i : Int))], store := [(0, some (SB.cells 34 (trkC t)))], nxt := 1, dirty := [1, 2, 3, 4], nt := 92 }) (K Ex.normal { tmps := [(1, SV.ptr 0 0), (2, SV.bool false), (8, SV.int IntKind.i64 (IntKind.i64.wrap ((↑i : Int) + 1)))], store := [(0, some (SB.cells 34 (trkC t)))], nxt := 1, dirty := [1, 2, 3, 4], nt := 92 })) (False)) (False)) (K (Ex.exit 2) { tmps := [(1, SV.ptr 0 0), (2, SV.bool false), (8, SV.int IntKind.i64 (↑i : Int))], store := [(0, some (SB.cells 34 (trkC t)))], nxt := 1, dirty := [1, 2, 3, 4], nt := 92 })) := by kernel_rfl
theorem ls_after2 (t : Trk) (i : Nat) (K : KC) : afterE lsE (keepW lsR 0) lsF [1, 1, 1, 1, 1, 1, 0, 1, 0] 0 K (.exit 2) (lsT t i) =
  (Br (decide ((↑t.nt : Int) > 0)) (Br (decide (t.rate ≥ 60)) (K (SV.bool true) [] []) (K (SV.bool false) [] [])) (K (SV.bool false) [] [])) := by kernel_rfl
theorem ll_nf (t : Trk) (K : KC) : run v1 2 5 [.agg (trkC t)] [] K =
  ((trkS (oneG t.h) (oneG t.g) (kindG t) (ptsG t.lx t.ly) (railG t) (gateG t)) ∧ (Br (!fewB t) (K (SV.bool true) [] []) ((trkS (oneG t.h) (oneG t.g) (kindG t) (ptsG t.lx t.ly) (railG t) (gateG t)) ∧ ((smallC t.nr (railG t)) ∧ (Br ((rightV t).fst != 0) (K (SV.bool true) [] []) (Br (decide ((↑t.nr : Int) > 0)) (Br (true && (decide (0 ≤ IntKind.i64.wrap ((↑t.nr : Int) - 1)) && decide (IntKind.i64.wrap ((↑t.nr : Int) - 1) ≤ (↑t.nr : Int)))) ((trkS (oneG t.h) (oneG t.g) (kindG t) (ptsG t.lx t.ly) (fun (i : Nat) => railG t (i + (↑0 : Int).toNat)) (gateG t)) ∧ ((smallC ((IntKind.i64.wrap ((↑t.nr : Int) - 1)).toNat - 0) fun (i : Nat) => railG t (i + (↑0 : Int).toNat)) ∧ (Br ((rightV (trkOf t.rate t.cell t.cols t.rows t.cx t.cy t.nh (oneG t.h) t.ng (oneG t.g) t.nk (kindG t) t.nl (ptsG t.lx t.ly) ((IntKind.i64.wrap ((↑t.nr : Int) - 1)).toNat - (↑0 : Int).toNat) (fun (i : Nat) => railG t (i + (↑0 : Int).toNat)) t.nt (gateG t) t.sx t.sy t.head 1)).fst == 0) (Br ((rightV (trkOf t.rate t.cell t.cols t.rows t.cx t.cy t.nh (oneG t.h) t.ng (oneG t.g) t.nk (kindG t) t.nl (ptsG t.lx t.ly) ((IntKind.i64.wrap ((↑t.nr : Int) - 1)).toNat - (↑0 : Int).toNat) (fun (i : Nat) => railG t (i + (↑0 : Int).toNat)) t.nt (gateG t) t.sx t.sy t.head 1)).snd == 0) (K (SV.bool true) [] []) (K (SV.bool false) [] [])) (K (SV.bool false) [] [])))) (False)) ((trkS (oneG t.h) (oneG t.g) (kindG t) (ptsG t.lx t.ly) (railG t) (gateG t)) ∧ ((smallC t.nr (railG t)) ∧ (Br ((rightV (trkOf t.rate t.cell t.cols t.rows t.cx t.cy t.nh (oneG t.h) t.ng (oneG t.g) t.nk (kindG t) t.nl (ptsG t.lx t.ly) t.nr (railG t) t.nt (gateG t) t.sx t.sy t.head 1)).fst == 0) (Br ((rightV (trkOf t.rate t.cell t.cols t.rows t.cx t.cy t.nh (oneG t.h) t.ng (oneG t.g) t.nk (kindG t) t.nl (ptsG t.lx t.ly) t.nr (railG t) t.nt (gateG t) t.sx t.sy t.head 1)).snd == 0) (K (SV.bool true) [] []) (K (SV.bool false) [] [])) (K (SV.bool false) [] [])))))))))) := by kernel_rfl
theorem barsT_law (t : Trk) : runL lbR (fun _ => 0) v1 2 3 [.agg (trkC t)] [] fun v _ _ => v = .bool true := by
  rw [lb_entry]
  refine ⟨trkS_of t, Br.of (fun _ => rfl) fun c => ?_⟩
  have hs := few_small (by rw [Bool.not_eq_false'] at c; exact c)
  refine ⟨trkS_of t, hs, trkS_of t, hs, Br.of (fun c => by rw [bne_self_eq_false] at c; cases c) fun _ => ?_⟩
  have hlen : (barL t).length ≤ 2000 := by
    have := allBars_len hs.2 t.nr (Nat.le_refl _)
    have h2 : t.nr * 100 ≤ 20 * 100 := Nat.mul_le_mul_right _ hs.1
    unfold barL
    omega
  generalize barL t = L at hlen ⊢
  refine scan_loop (fun i : Nat => lbS L i) L.length (fun _ => false) (fun _ => False) (afterE lbE (keepW lbR 0) lbF [1, 1, 1, 1, 1, 0, 1, 0] 0 (fun v _ _ => v = .bool true) (.exit 0) (lbS L L.length)) (fun i hi X h1 h2 => ?_) (fun X h => ?_) (fun i hi h _ => by cases h) (fun h => ?_)
  · rw [lb_round, wi64_succ hi (by omega)]
    refine Br.of (fun _ => Br.of (fun _ => Br.of (fun _ => Br.of (fun c => ?_) fun _ => h2 rfl) fun c => in_f hi c) fun c => in_f hi c) fun c => lt_f hi c
    simp only [beq_self_eq_true, Bool.and_self, Bool.not_true] at c
    cases c
  · rw [lb_round]
    exact Br.of (fun c => lt_t c) fun _ => h
  · rw [lb_after]
theorem startsT_law (t : Trk) (hn : t.nt < 9223372036854775808) : runL lsR (fun _ => 0) v1 2 4 [.agg (trkC t)] [] fun v _ _ => v = .bool true := by
  rw [ls_entry]
  refine ⟨trkS_of t, Br.of (fun _ => rfl) fun c => ?_⟩
  have hs := few_small (by rw [Bool.not_eq_false'] at c; exact c)
  refine ⟨trkS_of t, hs, Br.of (fun _ => rfl) fun c => ⟨trkS_of t, hs, ?_⟩⟩
  have hr : (rightV t).1 = 0 := bne_1 c
  obtain ⟨r1, r2, r3, r4⟩ := rightV_parts hr
  obtain ⟨_, s2, _⟩ := start_parts r4
  rw [near_iff] at s2
  have hlen : (barL t).length ≤ 2000 := by
    have := allBars_len hs.2 t.nr (Nat.le_refl _)
    have h2 : t.nr * 100 ≤ 20 * 100 := Nat.mul_le_mul_right _ hs.1
    unfold barL
    omega
  have hlong : ∀ b, b ∈ barL t → pointB b = false := fun b hb => bars_long hr hb
  generalize barL t = L at hlen hlong s2 ⊢
  refine scan_loop (fun i : Nat => lsS t L i) L.length (fun _ => false) (fun _ => False) (afterE lsE (keepW lsR 0) lsF [1, 1, 1, 1, 1, 0, 1, 0] 0 (fun v _ _ => v = .bool true) (.exit 0) (lsS t L L.length)) (fun i hi X h1 h2 => ?_) (fun X h => ?_) (fun i hi h _ => by cases h) (fun h => ?_)
  · have n1 := s2 _ (getD_mem (d := bar0) hi)
    have n2 := hlong _ (getD_mem (d := bar0) hi)
    unfold nearBar at n1
    unfold pointB at n2
    rw [ls_round, wi64_succ hi (by omega)]
    simp only [Int.toNat_natCast]
    refine Br.of (fun _ => Br.of (fun _ => Br.of (fun _ => Br.of (fun _ => Br.of (fun _ => Br.of (fun c => ?_) fun _ => Br.of (fun c => Br.of (fun d => ?_) fun _ => h2 rfl) fun _ => h2 rfl) fun c => in_f hi c) fun c => in_f hi c) fun c => in_f hi c) fun c => in_f hi c) fun c => lt_f hi c
    · rw [n2] at c; cases c
    · rw [show decide (0 < beyV _ _ _ _ _ _) = true from c, d] at n1; cases n1
  · rw [ls_round]
    exact Br.of (fun c => lt_t c) fun _ => h
  · rw [ls_after]
    obtain ⟨g1, g2⟩ := gates_parts r3
    refine scan_loop (fun i : Nat => lsT t i) t.nt (fun _ => false) (fun _ => False) (afterE lsE (keepW lsR 0) lsF [1, 1, 1, 1, 1, 1, 0, 1, 0] 0 (fun v _ _ => v = .bool true) (.exit 2) (lsT t t.nt)) (fun i hi X h1 h2 => ?_) (fun X h => ?_) (fun i hi h _ => by cases h) (fun h => ?_)
    · have n1 := gate_parts (g2 i hi)
      rw [ls_round2, wi64_succ hi hn]
      simp only [Int.toNat_natCast]
      refine Br.of (fun _ => Br.of (fun _ => Br.of (fun _ => Br.of (fun c => ?_) fun _ => h2 rfl) fun c => in_f hi c) fun c => in_f hi c) fun c => lt_f hi c
      rw [n1] at c; cases c
    · rw [ls_round2]
      exact Br.of (fun c => lt_t c) fun _ => h
    · rw [ls_after2]
      have hrt := ground_rate r1
      unfold rateB at hrt
      simp only [Bool.and_eq_true, decide_eq_true_eq] at hrt
      refine Br.of (fun _ => Br.of (fun _ => rfl) fun c => ?_) fun c => ?_
      · have := of_decide_eq_false c; omega
      · have := of_decide_eq_false c; omega
theorem lessT_law (t : Trk) : run v1 2 5 [.agg (trkC t)] [] fun v _ _ => v = .bool true := by
  rw [ll_nf]
  refine ⟨trkS_of t, Br.of (fun _ => rfl) fun c => ?_⟩
  have hs := few_small (by rw [Bool.not_eq_false'] at c; exact c)
  refine ⟨trkS_of t, hs, Br.of (fun _ => rfl) fun c => ?_⟩
  have hr : (rightV t).1 = 0 := bne_1 c
  have hl := less_right hr
  have h20 := hs.1
  refine Br.of (fun c1 => ?_) fun c1 => ⟨trkS_of t, hs, ?_⟩
  · have c1' := of_decide_eq_true c1
    rw [wi64_pred (by omega) (by omega)]
    refine Br.of (fun _ => ⟨trkS_of t, ⟨?_, fun i hi => ?_⟩, ?_⟩) fun c => ?_
    · rw [Int.toNat_natCast, Nat.sub_zero]; omega
    · rw [Int.toNat_natCast, Nat.sub_zero] at hi
      exact hs.2 i (by omega)
    · show Br ((rightV (lessT t)).1 == 0) (Br ((rightV (lessT t)).2 == 0) _ _) _
      rw [hl]; rfl
    · simp only [Bool.true_and, Bool.and_eq_false_iff, decide_eq_false_iff_not] at c; omega
  · have c1' := of_decide_eq_false c1
    have e : ({ t with laps := 1 } : Trk) = lessT t := by
      unfold lessT
      rw [show t.nr - 1 = t.nr by omega]
    show Br ((rightV ({ t with laps := 1 } : Trk)).1 == 0) (Br ((rightV ({ t with laps := 1 } : Trk)).2 == 0) _ _) _
    rw [e, hl]; rfl
end Go.Proofs.YthnikhkcnapcaaaDoor
