import Derived.Test.YtbedljhbakdghaaGreatDoorTe
namespace Go.Proofs.YtbedljhbakdghaaGreatDoor
open Go.Se
set_option maxRecDepth 100000
theorem sright_nf (n : Nat) (X Y : Nat → Int) (K : KC) : run p8 3 122 [.ro n 2 (farCells X Y)] [] K =
  (Br (decide ((↑n : Int) < 3)) (K (SV.int .i64 42) [] []) (Br (decide ((↑n : Int) > 64)) (K (SV.int .i64 42) [] []) ((pts (farCells X Y)) ∧ (Br (decide (fstB (fun (i : Nat) => farB (px (farCells X Y i)) (py (farCells X Y i))) n 0 ≥ 0)) (K (SV.int .i64 40) [] []) (K (SV.int .i64 0) [] []))))) := by kernel_rfl
theorem sright_ok (n : Nat) (X Y : Nat → Int) : CallOK Tryz.prog 122 [.ro n 2 (farCells X Y)] [] (.int .i64 (lineV n X Y)) [] [] :=
  run_ok p8 3 fun _ _ K hK => by
    rw [sright_nf]
    unfold lineV at hK
    refine Br.of (fun c => ?_) fun c => Br.of (fun c2 => ?_) fun c2 => ⟨fun _ => rfl, Br.of (fun c3 => ?_) fun c3 => ?_⟩
    · rw [c] at hK; exact hK
    · rw [c, c2] at hK; exact hK
    · have c3' : anyB (fun i => farB (X i) (Y i)) n = true := c3
      rw [c, c2, c3'] at hK; exact hK
    · have c3' : anyB (fun i => farB (X i) (Y i)) n = false := c3
      rw [c, c2, c3'] at hK; exact hK
def cSRight : List SV → List (Option SB) → KC → Prop
  | [.ro n 2 g], [], K => pts g ∧ K (.int .i64 (lineV n (fun i => px (g i)) (fun i => py (g i)))) [] []
  | _, _, _ => False
theorem sright_sat (xs : List SV) (σ : List (Option SB)) : Sat Tryz.prog 122 xs σ (cSRight xs σ) := by
  intro K hK
  unfold cSRight at hK
  split at hK
  · obtain ⟨hp, hK⟩ := hK
    refine ⟨_, _, _, hK, ?_⟩
    rw [pts_eq hp]; exact sright_ok _ _ _
  · exact hK.elim
noncomputable def p9 : Know Tryz.prog := (((p8).add cpId cCompact compact_sat).add 122 cSRight sright_sat).add 121 cFNew fnew_sat
theorem ground_nf (t : Trk) (K : KC) : run p9 4 97 [.agg (trkC t)] [] K =
  (Br (decide (60 ≤ t.rate)) (Br (!decide (t.rate ≤ 1024)) (K (SV.iface 106 (SV.ptr 0 0)) [some (SB.cells 113 [SV.int .i64 40, SV.int .i64 0])] []) ((trkS (oneG t.h) (oneG t.g) (kindG t) (ptsG t.lx t.ly) (railG t) (gateG t)) ∧ (Br (fieldV t == 0) ((pts (ptsG t.lx t.ly)) ∧ (Br ((lineV t.nl (fun (i : Nat) => px (ptsG t.lx t.ly i)) fun (i : Nat) => py (ptsG t.lx t.ly i)) != 0) (K (SV.iface 106 (SV.ptr 0 0)) [some (SB.cells 113 [SV.int .i64 (lineV t.nl (fun (i : Nat) => px (ptsG t.lx t.ly i)) fun (i : Nat) => py (ptsG t.lx t.ly i)), SV.int .i64 0])] []) ((pts (ptsG t.lx t.ly)) ∧ (Br (!decide (fstB (fun (i : Nat) => offP (px (ptsG t.lx t.ly i)) (py (ptsG t.lx t.ly i))) t.nl 0 ≥ 0)) (K SV.nilI [] []) (K (SV.iface 106 (SV.ptr 0 0)) [some (SB.cells 113 [SV.int .i64 40, SV.int .i64 0])] []))))) (Br (fieldV t != 0) (K (SV.iface 106 (SV.ptr 0 0)) [some (SB.cells 113 [SV.int .i64 (fieldV t), SV.int .i64 0])] []) ((pts (ptsG t.lx t.ly)) ∧ (Br ((lineV t.nl (fun (i : Nat) => px (ptsG t.lx t.ly i)) fun (i : Nat) => py (ptsG t.lx t.ly i)) != 0) (K (SV.iface 106 (SV.ptr 0 0)) [some (SB.cells 113 [SV.int .i64 (lineV t.nl (fun (i : Nat) => px (ptsG t.lx t.ly i)) fun (i : Nat) => py (ptsG t.lx t.ly i)), SV.int .i64 0])] []) ((pts (ptsG t.lx t.ly)) ∧ (Br (!decide (fstB (fun (i : Nat) => offP (px (ptsG t.lx t.ly i)) (py (ptsG t.lx t.ly i))) t.nl 0 ≥ 0)) (K SV.nilI [] []) (K (SV.iface 106 (SV.ptr 0 0)) [some (SB.cells 113 [SV.int .i64 40, SV.int .i64 0])] []))))))))) (K (SV.iface 106 (SV.ptr 0 0)) [some (SB.cells 113 [SV.int .i64 40, SV.int .i64 0])] [])) := by kernel_rfl
def errK (c : Int × Int) (K : KC) : Prop := Br (c.1 == 0) (K .nilI [] []) (K (.iface 106 (.ptr 0 0)) [some (.cells 113 [.int .i64 c.1, .int .i64 c.2])] [])
theorem bne_0 {x : Int} (h : (x != 0) = true) : (x == 0) = false := by rw [bne_iff_ne] at h; exact beq_false_of_ne h
theorem bne_1 {x : Int} (h : (x != 0) = false) : x = 0 := by
  by_cases hx : x = 0
  · exact hx
  · rw [bne_iff_ne.2 hx] at h; cases h
theorem ground_law (t : Trk) (K : KC) (hK : errK (groundV t, 0) K) : run p9 4 97 [.agg (trkC t)] [] K := by
  rw [ground_nf]
  unfold errK groundV rateB at hK
  refine Br.of (fun c => Br.of (fun c1 => ?_) fun c1 => ⟨trkS_of t, ?_⟩) fun c => ?_
  · rw [c, show decide (t.rate ≤ 1024) = false by rw [Bool.not_eq_true'] at c1; exact c1] at hK; exact hK
  · rw [c, show decide (t.rate ≤ 1024) = true by rw [Bool.not_eq_false'] at c1; exact c1] at hK
    simp only [Bool.and_self, Bool.not_true, cond_false] at hK
    refine Br.of (fun c2 => ?_) fun c2 => Br.of (fun c3 => ?_) fun c3 => ?_
    · have c2' := eq_of_beq c2
      rw [c2'] at hK
      simp only [bne_self_eq_false, cond_false] at hK
      refine ⟨fun _ => rfl, Br.of (fun c4 => ?_) fun c4 => ⟨fun _ => rfl, Br.of (fun c5 => ?_) fun c5 => ?_⟩⟩
      · have c4' : (lineV t.nl t.lx t.ly != 0) = true := c4
        rw [c4'] at hK
        simp only [cond_true] at hK
        rw [bne_0 c4'] at hK
        exact hK
      · have c4' : (lineV t.nl t.lx t.ly != 0) = false := c4
        have c5' : lineOff t = false := by rw [Bool.not_eq_true'] at c5; exact c5
        rw [c4', c5'] at hK
        exact hK
      · have c4' : (lineV t.nl t.lx t.ly != 0) = false := c4
        have c5' : lineOff t = true := by rw [Bool.not_eq_false'] at c5; exact c5
        rw [c4', c5'] at hK
        exact hK
    · rw [c3] at hK
      simp only [cond_true] at hK
      rw [c2] at hK
      exact hK
    · rw [bne_1 c3] at c2; cases c2
  · rw [c] at hK; exact hK
/-! ### Rails. -/
def trlR : List (Nat × Keep) := [(0, ⟨[1, 2, 13, 14, 15], [0, 1], [1, 2, 3, 4, 5], 2, [(2, 1)]⟩)]
def trlS (t : Trk) (i : Int) : St := ⟨[(1, .ptr 0 0), (2, .nilI), (13, .ro t.nr 1 (railG t)), (14, .int .i64 t.nr), (15, .int .i64 i)], [(0, some (.cells 34 (trkC t))), (1, none)], 2, [1, 2, 3, 4, 5], 49⟩
def trlT (t : Trk) (c i : Int) : St := ⟨[(1, .ptr 0 0), (2, .iface 106 (.ptr 1 0)), (13, .ro t.nr 1 (railG t)), (14, .int .i64 t.nr), (15, .int .i64 i)], [(0, some (.cells 34 (trkC t))), (1, some (.cells 113 [.int .i64 c, .int .i64 i]))], 2, [1, 2, 3, 4, 5], 49⟩
noncomputable abbrev trlE : Env := envL trlR (fun _ => 0) p9 3
noncomputable abbrev trlF : Func := Tryz.f98
abbrev trlP : List Nat := [1, 1, 0, 1, 0]
theorem trl_entry (t : Trk) (K : KC) : runL trlR (fun _ => 0) p9 4 98 [.agg (trkC t)] [] K =
  (Br (decide ((↑t.nr : Int) > 16)) (K (SV.iface 106 (SV.ptr 0 0)) [some (SB.cells 113 [SV.int .i64 42, SV.int .i64 0])] []) (∃ q_, loopE trlE (keepW trlR 0) trlF trlP 0 0 K q_ { tmps := [(1, SV.ptr 0 0), (2, SV.nilI), (13, SV.ro t.nr 1 (railG t)), (14, SV.int .i64 (↑t.nr : Int)), (15, SV.int .i64 0)], store := [(0, some (SB.cells 34 (trkC t))), (1, none)], nxt := 2, dirty := [1, 2, 3, 4, 5], nt := 49 })) := by kernel_rfl
theorem trl_round (t : Trk) (i : Nat) (K : Ex → St → Prop) : roundE trlE (keepW trlR 0) trlF trlP 0 K (trlS t i) =
  (Br (decide ((↑i : Int) < (↑t.nr : Int))) (Br (decide (0 ≤ (↑i : Int)) && decide ((↑i : Int) < (↑t.nr : Int))) (Br (decide (2 ≤ (↑(t.rn (↑i : Int).toNat) : Int))) (Br (!decide ((↑(t.rn (↑i : Int).toNat) : Int) ≤ 64)) (K Ex.ret { tmps := [(1, SV.ptr 0 0), (2, SV.iface 106 (SV.ptr 1 0)), (13, SV.ro t.nr 1 (railG t)), (14, SV.int .i64 (↑t.nr : Int)), (15, SV.int .i64 (↑i : Int))], store := [(0, some (SB.cells 34 (trkC t))), (1, some (SB.cells 113 [SV.int .i64 42, SV.int .i64 (↑i : Int)]))], nxt := 2, dirty := [1, 2, 3, 4, 5], nt := 49 }) ((pts (ptsG (t.rx (↑i : Int).toNat) (t.ry (↑i : Int).toNat))) ∧ (Br (decide (fstB (fun (i_1 : Nat) => offP (px (ptsG (t.rx (↑i : Int).toNat) (t.ry (↑i : Int).toNat) i_1)) (py (ptsG (t.rx (↑i : Int).toNat) (t.ry (↑i : Int).toNat) i_1))) (t.rn (↑i : Int).toNat) 0 ≥ 0)) (K Ex.ret { tmps := [(1, SV.ptr 0 0), (2, SV.iface 106 (SV.ptr 1 0)), (13, SV.ro t.nr 1 (railG t)), (14, SV.int .i64 (↑t.nr : Int)), (15, SV.int .i64 (↑i : Int))], store := [(0, some (SB.cells 34 (trkC t))), (1, some (SB.cells 113 [SV.int .i64 40, SV.int .i64 (↑i : Int)]))], nxt := 2, dirty := [1, 2, 3, 4, 5], nt := 49 }) ((pts (ptsG (t.rx (↑i : Int).toNat) (t.ry (↑i : Int).toNat))) ∧ ((0 < t.rn (↑i : Int).toNat ∧ t.rn (↑i : Int).toNat ≤ 1000000) ∧ ((pts (ptsG (t.rx (↑i : Int).toNat) (t.ry (↑i : Int).toNat)) ∧ t.rn (↑i : Int).toNat = t.rn (↑i : Int).toNat ∧ 2 ≤ t.rn (↑i : Int).toNat) ∧ (Br (dupB (fun (i_1 : Nat) => px (ptsG (t.rx (↑i : Int).toNat) (t.ry (↑i : Int).toNat) i_1)) (fun (i_1 : Nat) => py (ptsG (t.rx (↑i : Int).toNat) (t.ry (↑i : Int).toNat) i_1)) (t.rn (↑i : Int).toNat)) (∀ (m : Nat), ∀ (_ : m < t.rn (↑i : Int).toNat), Br (decide ((↑m : Int) < (↑(t.rn (↑i : Int).toNat) : Int))) (K Ex.ret { tmps := [(1, SV.ptr 0 0), (2, SV.iface 106 (SV.ptr 1 0)), (13, SV.ro t.nr 1 (railG t)), (14, SV.int .i64 (↑t.nr : Int)), (15, SV.int .i64 (↑i : Int))], store := [(0, some (SB.cells 34 (trkC t))), (1, some (SB.cells 113 [SV.int .i64 43, SV.int .i64 (↑i : Int)]))], nxt := 2, dirty := [1, 2, 3, 4, 5], nt := 49 }) (K Ex.normal { tmps := [(1, SV.ptr 0 0), (2, SV.nilI), (13, SV.ro t.nr 1 (railG t)), (14, SV.int .i64 (↑t.nr : Int)), (15, SV.int .i64 (IntKind.i64.wrap ((↑i : Int) + 1)))], store := [(0, some (SB.cells 34 (trkC t))), (1, none)], nxt := 2, dirty := [1, 2, 3, 4, 5], nt := 49 })) (Br (decide ((↑(t.rn (↑i : Int).toNat) : Int) < (↑(t.rn (↑i : Int).toNat) : Int))) (K Ex.ret { tmps := [(1, SV.ptr 0 0), (2, SV.iface 106 (SV.ptr 1 0)), (13, SV.ro t.nr 1 (railG t)), (14, SV.int .i64 (↑t.nr : Int)), (15, SV.int .i64 (↑i : Int))], store := [(0, some (SB.cells 34 (trkC t))), (1, some (SB.cells 113 [SV.int .i64 43, SV.int .i64 (↑i : Int)]))], nxt := 2, dirty := [1, 2, 3, 4, 5], nt := 49 }) (K Ex.normal { tmps := [(1, SV.ptr 0 0), (2, SV.nilI), (13, SV.ro t.nr 1 (railG t)), (14, SV.int .i64 (↑t.nr : Int)), (15, SV.int .i64 (IntKind.i64.wrap ((↑i : Int) + 1)))], store := [(0, some (SB.cells 34 (trkC t))), (1, none)], nxt := 2, dirty := [1, 2, 3, 4, 5], nt := 49 }))))))))) (K Ex.ret { tmps := [(1, SV.ptr 0 0), (2, SV.iface 106 (SV.ptr 1 0)), (13, SV.ro t.nr 1 (railG t)), (14, SV.int .i64 (↑t.nr : Int)), (15, SV.int .i64 (↑i : Int))], store := [(0, some (SB.cells 34 (trkC t))), (1, some (SB.cells 113 [SV.int .i64 42, SV.int .i64 (↑i : Int)]))], nxt := 2, dirty := [1, 2, 3, 4, 5], nt := 49 })) (False)) (K (Ex.exit 0) { tmps := [(1, SV.ptr 0 0), (2, SV.nilI), (13, SV.ro t.nr 1 (railG t)), (14, SV.int .i64 (↑t.nr : Int)), (15, SV.int .i64 (↑i : Int))], store := [(0, some (SB.cells 34 (trkC t))), (1, none)], nxt := 2, dirty := [1, 2, 3, 4, 5], nt := 49 })) := by kernel_rfl
theorem trl_ret (t : Trk) (c i : Int) (K : KC) : afterE trlE (keepW trlR 0) trlF trlP 0 K .ret (trlT t c i) =
  (K (SV.iface 106 (SV.ptr 0 0)) [some (SB.cells 113 [SV.int .i64 c, SV.int .i64 i])] []) := by kernel_rfl
theorem trl_after (t : Trk) (i : Int) (K : KC) : afterE trlE (keepW trlR 0) trlF trlP 0 K (.exit 0) (trlS t i) =
  (K SV.nilI [] []) := by kernel_rfl
theorem err_hit {c : Nat → Int} {n i : Nat} {v : Int} {K : KC} (hK : errK (fstW c (n - i) i) K) (hi : i < n) (h : c i = v) (hv : (v != 0) = true) : K (.iface 106 (.ptr 0 0)) [some (.cells 113 [.int .i64 v, .int .i64 i])] [] := by
  rw [fst_hit hi h hv] at hK
  unfold errK at hK
  rw [bne_0 hv] at hK
  exact hK
theorem rails_law (t : Trk) (hn : t.nr < 9223372036854775808) (K : KC) (hK : errK (railsV t) K) : runL trlR (fun _ => 0) p9 4 98 [.agg (trkC t)] [] K := by
  rw [trl_entry]
  unfold railsV at hK
  refine Br.of (fun c => ?_) fun c => ?_
  · rw [c] at hK; exact hK
  rw [c] at hK
  simp only [cond_false] at hK
  refine ⟨t.nr + 1, loop_up (fun i : Nat => trlS t i) t.nr (fun i => errK (fstW (railV t) (t.nr - i) i) K) (fun i hi hI X hX => ?_) (fun hI X => ?_) hK⟩
  · have hret : ∀ v, railV t i = v → (v != 0) = true → nextK X (afterE trlE (keepW trlR 0) trlF trlP 0 K) .ret (trlT t v i) := fun v h1 h2 => by
      show afterE trlE (keepW trlR 0) trlF trlP 0 K .ret (trlT t v i)
      rw [trl_ret]
      exact err_hit hI hi h1 h2
    have hnext : railV t i = 0 → nextK X (afterE trlE (keepW trlR 0) trlF trlP 0 K) .normal (trlS t (i + 1 : Nat)) := fun h => hX (by rw [fst_miss hi h] at hI; exact hI)
    rw [trl_round, wi64_succ hi hn]
    simp only [Int.toNat_natCast]
    unfold railV at hret hnext
    refine Br.of (fun _ => Br.of (fun _ => Br.of (fun c1 => Br.of (fun c2 => hret 42 ?_ rfl) fun c2 => ⟨fun _ => rfl, Br.of (fun c3 => hret 40 ?_ rfl) fun c3 => ⟨fun _ => rfl, ?_, ?_, ?_⟩⟩) fun c1 => hret 42 ?_ rfl) fun c => ?_) fun c => ?_
    · rw [c1, show decide ((t.rn i : Int) ≤ 64) = false by rw [Bool.not_eq_true'] at c2; exact c2]; rfl
    · have c3' : anyB (fun k => offP (t.rx i k) (t.ry i k)) (t.rn i) = true := c3
      rw [c1, show decide ((t.rn i : Int) ≤ 64) = true by rw [Bool.not_eq_false'] at c2; exact c2, c3']; rfl
    · have := of_decide_eq_true c1
      rw [Bool.not_eq_false'] at c2
      have := of_decide_eq_true c2
      omega
    · have := of_decide_eq_true c1
      exact ⟨fun _ => rfl, by trivial, by omega⟩
    · have c3' : anyB (fun k => offP (t.rx i k) (t.ry i k)) (t.rn i) = false := c3
      rw [c1, show decide ((t.rn i : Int) ≤ 64) = true by rw [Bool.not_eq_false'] at c2; exact c2, c3'] at hret hnext
      refine Br.of (fun c4 m hm => Br.of (fun _ => ?_) fun c => ?_) fun c4 => Br.of (fun c => ?_) fun _ => ?_
      · have c4' : dupB (t.rx i) (t.ry i) (t.rn i) = true := c4
        exact hret 43 (by rw [c4']; rfl) rfl
      · have := of_decide_eq_false c; omega
      · have := of_decide_eq_true c; omega
      · have c4' : dupB (t.rx i) (t.ry i) (t.rn i) = false := c4
        exact hnext (by rw [c4']; rfl)
    · rw [c1]; rfl
    · simp only [Bool.and_eq_false_iff, decide_eq_false_iff_not] at c; omega
    · have := of_decide_eq_false c; omega
  · rw [trl_round]
    refine Br.of (fun c => absurd (of_decide_eq_true c) (by omega)) fun _ => ?_
    show afterE trlE (keepW trlR 0) trlF trlP 0 K (.exit 0) (trlS t t.nr)
    rw [trl_after]
    rw [Nat.sub_self] at hI
    exact hI
def tgtR : List (Nat × Keep) := [(0, ⟨[1, 2, 14, 15, 16], [0, 1], [1, 2, 3, 4, 5], 2, [(2, 1)]⟩)]
def tgtS (t : Trk) (i : Int) : St := ⟨[(1, .ptr 0 0), (2, .nilI), (14, .ro t.nt 5 (gateG t)), (15, .int .i64 t.nt), (16, .int .i64 i)], [(0, some (.cells 34 (trkC t))), (1, none)], 2, [1, 2, 3, 4, 5], 45⟩
def tgtT (t : Trk) (c i : Int) : St := ⟨[(1, .ptr 0 0), (2, .iface 106 (.ptr 1 0)), (14, .ro t.nt 5 (gateG t)), (15, .int .i64 t.nt), (16, .int .i64 i)], [(0, some (.cells 34 (trkC t))), (1, some (.cells 113 [.int .i64 c, .int .i64 i]))], 2, [1, 2, 3, 4, 5], 45⟩
noncomputable abbrev tgtE : Env := envL tgtR (fun _ => 0) p9 3
noncomputable abbrev tgtF : Func := Tryz.f99
theorem tgt_entry (t : Trk) (K : KC) : runL tgtR (fun _ => 0) p9 4 99 [.agg (trkC t)] [] K =
  (Br (decide (1 ≤ (↑t.nt : Int))) (Br (!decide ((↑t.nt : Int) ≤ 16)) (K (SV.iface 106 (SV.ptr 0 0)) [some (SB.cells 113 [SV.int .i64 42, SV.int .i64 0])] []) (∃ q_, loopE tgtE (keepW tgtR 0) tgtF trlP 0 0 K q_ { tmps := [(1, SV.ptr 0 0), (2, SV.nilI), (14, SV.ro t.nt 5 (gateG t)), (15, SV.int .i64 (↑t.nt : Int)), (16, SV.int .i64 0)], store := [(0, some (SB.cells 34 (trkC t))), (1, none)], nxt := 2, dirty := [1, 2, 3, 4, 5], nt := 45 })) (K (SV.iface 106 (SV.ptr 0 0)) [some (SB.cells 113 [SV.int .i64 42, SV.int .i64 0])] [])) := by kernel_rfl
theorem tgt_round (t : Trk) (i : Nat) (K : Ex → St → Prop) : roundE tgtE (keepW tgtR 0) tgtF trlP 0 K (tgtS t i) =
  (Br (decide ((↑i : Int) < (↑t.nt : Int))) (Br (decide (0 ≤ (↑i : Int)) && decide ((↑i : Int) < (↑t.nt : Int))) (Br (offP (t.ax (↑i : Int).toNat) (t.ay (↑i : Int).toNat)) (K Ex.ret { tmps := [(1, SV.ptr 0 0), (2, SV.iface 106 (SV.ptr 1 0)), (14, SV.ro t.nt 5 (gateG t)), (15, SV.int .i64 (↑t.nt : Int)), (16, SV.int .i64 (↑i : Int))], store := [(0, some (SB.cells 34 (trkC t))), (1, some (SB.cells 113 [SV.int .i64 40, SV.int .i64 (↑i : Int)]))], nxt := 2, dirty := [1, 2, 3, 4, 5], nt := 45 }) (Br (offP (t.bx (↑i : Int).toNat) (t.sb (↑i : Int).toNat)) (K Ex.ret { tmps := [(1, SV.ptr 0 0), (2, SV.iface 106 (SV.ptr 1 0)), (14, SV.ro t.nt 5 (gateG t)), (15, SV.int .i64 (↑t.nt : Int)), (16, SV.int .i64 (↑i : Int))], store := [(0, some (SB.cells 34 (trkC t))), (1, some (SB.cells 113 [SV.int .i64 40, SV.int .i64 (↑i : Int)]))], nxt := 2, dirty := [1, 2, 3, 4, 5], nt := 45 }) (Br (t.ax (↑i : Int).toNat == t.bx (↑i : Int).toNat && t.ay (↑i : Int).toNat == t.sb (↑i : Int).toNat) (K Ex.ret { tmps := [(1, SV.ptr 0 0), (2, SV.iface 106 (SV.ptr 1 0)), (14, SV.ro t.nt 5 (gateG t)), (15, SV.int .i64 (↑t.nt : Int)), (16, SV.int .i64 (↑i : Int))], store := [(0, some (SB.cells 34 (trkC t))), (1, some (SB.cells 113 [SV.int .i64 43, SV.int .i64 (↑i : Int)]))], nxt := 2, dirty := [1, 2, 3, 4, 5], nt := 45 }) (K Ex.normal { tmps := [(1, SV.ptr 0 0), (2, SV.nilI), (14, SV.ro t.nt 5 (gateG t)), (15, SV.int .i64 (↑t.nt : Int)), (16, SV.int .i64 (IntKind.i64.wrap ((↑i : Int) + 1)))], store := [(0, some (SB.cells 34 (trkC t))), (1, none)], nxt := 2, dirty := [1, 2, 3, 4, 5], nt := 45 })))) (False)) (K (Ex.exit 0) { tmps := [(1, SV.ptr 0 0), (2, SV.nilI), (14, SV.ro t.nt 5 (gateG t)), (15, SV.int .i64 (↑t.nt : Int)), (16, SV.int .i64 (↑i : Int))], store := [(0, some (SB.cells 34 (trkC t))), (1, none)], nxt := 2, dirty := [1, 2, 3, 4, 5], nt := 45 })) := by kernel_rfl
theorem tgt_ret (t : Trk) (c i : Int) (K : KC) : afterE tgtE (keepW tgtR 0) tgtF trlP 0 K .ret (tgtT t c i) =
  (K (SV.iface 106 (SV.ptr 0 0)) [some (SB.cells 113 [SV.int .i64 c, SV.int .i64 i])] []) := by kernel_rfl
theorem tgt_after (t : Trk) (i : Int) (K : KC) : afterE tgtE (keepW tgtR 0) tgtF trlP 0 K (.exit 0) (tgtS t i) =
  (K SV.nilI [] []) := by kernel_rfl
theorem gates_law (t : Trk) (hn : t.nt < 9223372036854775808) (K : KC) (hK : errK (gatesV t) K) : runL tgtR (fun _ => 0) p9 4 99 [.agg (trkC t)] [] K := by
  rw [tgt_entry]
  unfold gatesV at hK
  refine Br.of (fun c => Br.of (fun c1 => ?_) fun c1 => ?_) fun c => ?_
  · rw [c, show decide ((t.nt : Int) ≤ 16) = false by rw [Bool.not_eq_true'] at c1; exact c1] at hK; exact hK
  · rw [c, show decide ((t.nt : Int) ≤ 16) = true by rw [Bool.not_eq_false'] at c1; exact c1] at hK
    simp only [Bool.and_self, Bool.not_true, cond_false] at hK
    refine ⟨t.nt + 1, loop_up (fun i : Nat => tgtS t i) t.nt (fun i => errK (fstW (gateV t) (t.nt - i) i) K) (fun i hi hI X hX => ?_) (fun hI X => ?_) hK⟩
    · have hret : ∀ v, gateV t i = v → (v != 0) = true → nextK X (afterE tgtE (keepW tgtR 0) tgtF trlP 0 K) .ret (tgtT t v i) := fun v h1 h2 => by
        show afterE tgtE (keepW tgtR 0) tgtF trlP 0 K .ret (tgtT t v i)
        rw [tgt_ret]
        exact err_hit hI hi h1 h2
      have hnext : gateV t i = 0 → nextK X (afterE tgtE (keepW tgtR 0) tgtF trlP 0 K) .normal (tgtS t (i + 1 : Nat)) := fun h => hX (by rw [fst_miss hi h] at hI; exact hI)
      rw [tgt_round, wi64_succ hi hn]
      simp only [Int.toNat_natCast]
      unfold gateV at hret hnext
      refine Br.of (fun _ => Br.of (fun _ => Br.of (fun c1 => hret 40 ?_ rfl) fun c1 => Br.of (fun c2 => hret 40 ?_ rfl) fun c2 => Br.of (fun c3 => hret 43 ?_ rfl) fun c3 => hnext ?_) fun c => ?_) fun c => ?_
      · rw [c1]; rfl
      · rw [c1, c2]; rfl
      · rw [c1, c2, c3]; rfl
      · rw [c1, c2, c3]; rfl
      · simp only [Bool.and_eq_false_iff, decide_eq_false_iff_not] at c; omega
      · have := of_decide_eq_false c; omega
    · rw [tgt_round]
      refine Br.of (fun c => absurd (of_decide_eq_true c) (by omega)) fun _ => ?_
      show afterE tgtE (keepW tgtR 0) tgtF trlP 0 K (.exit 0) (tgtS t t.nt)
      rw [tgt_after]
      rw [Nat.sub_self] at hI
      exact hI
  · rw [c] at hK; exact hK
end Go.Proofs.YtbedljhbakdghaaGreatDoor

namespace Go.Proofs.YtbedljhbakdghaaGreatDoor
open Go.Se
set_option maxRecDepth 100000
def tbR : List (Nat × Keep) := [(0, ⟨[3, 8, 9, 10], [1], [1, 2, 3, 4, 5], 2, [(3, 1)]⟩), (2, ⟨[3, 4, 5, 21, 22, 8, 9, 10], [1], [1, 2, 3, 4, 5], 2, [(3, 1)]⟩)]
def tbS (t : Trk) (o : SV) (b : Option SB) (i : Int) : St := ⟨[(3, o), (8, .ro t.nr 1 (railG t)), (9, .int .i64 t.nr), (10, .int .i64 i)], [(1, b)], 2, [1, 2, 3, 4, 5], 42⟩
def tbT (t : Trk) (o : SV) (b : Option SB) (i : Int) (r : Nat) (X Y : Nat → Int) (n k : Int) : St := ⟨[(3, o), (4, .int .i64 i), (5, .ro r 2 (farCells X Y)), (21, .int .i64 n), (22, .int .i64 k), (8, .ro t.nr 1 (railG t)), (9, .int .i64 t.nr), (10, .int .i64 i)], [(1, b)], 2, [1, 2, 3, 4, 5], 42⟩
noncomputable abbrev tbE : Env := envL tbR (fun _ => 0) p9 1
noncomputable abbrev tbF : Func := Tryz.f128
abbrev tbP : List Nat := [1, 1, 0, 1, 0]
abbrev tbI : List Nat := [1, 1, 0, 0, 1, 1, 0]
abbrev barT : TypeId := 132
theorem tb_entry (t : Trk) (K : KC) : runL tbR (fun _ => 0) p9 2 128 [.agg (trkC t)] [] K =
  (∃ q_, loopE tbE (keepW tbR 0) tbF tbP 0 0 K q_ { tmps := [(3, SV.nils), (8, SV.ro t.nr 1 (railG t)), (9, SV.int .i64 (↑t.nr : Int)), (10, SV.int .i64 0)], store := [(1, none)], nxt := 2, dirty := [1, 2, 3, 4, 5], nt := 42 }) := by kernel_rfl
theorem tb_round0 (t : Trk) (i : Nat) (K : Ex → St → Prop) : roundE tbE (keepW tbR 0) tbF tbP 0 K (tbS t .nils none i) =
  (Br (decide ((↑i : Int) < (↑t.nr : Int))) (Br (decide (0 ≤ (↑i : Int)) && decide ((↑i : Int) < (↑t.nr : Int))) (Br (true && (decide (0 ≤ if 0 > IntKind.i64.wrap ((↑(t.rn (↑i : Int).toNat) : Int) - 1) then 0 else IntKind.i64.wrap ((↑(t.rn (↑i : Int).toNat) : Int) - 1)) && decide ((if 0 > IntKind.i64.wrap ((↑(t.rn (↑i : Int).toNat) : Int) - 1) then 0 else IntKind.i64.wrap ((↑(t.rn (↑i : Int).toNat) : Int) - 1)) ≤ (↑(t.rn (↑i : Int).toNat) : Int)))) (∃ q_, iter (roundE tbE (keepW tbR 0) tbF (tbP ++ [0] ++ tbI) 2) (nestK tbE (keepW tbR 0) tbF tbP 0 tbI K) q_ { tmps := [(3, SV.nils), (4, SV.int .i64 (↑i : Int)), (5, SV.ro (t.rn (↑i : Int).toNat) 2 (ptsG (t.rx (↑i : Int).toNat) (t.ry (↑i : Int).toNat))), (21, SV.int .i64 (↑((if 0 > IntKind.i64.wrap ((↑(t.rn (↑i : Int).toNat) : Int) - 1) then 0 else IntKind.i64.wrap ((↑(t.rn (↑i : Int).toNat) : Int) - 1)).toNat - 0) : Int)), (22, SV.int .i64 0), (8, SV.ro t.nr 1 (railG t)), (9, SV.int .i64 (↑t.nr : Int)), (10, SV.int .i64 (↑i : Int))], store := [(1, none)], nxt := 2, dirty := [1, 2, 3, 4, 5], nt := 42 }) (False)) (False)) (K (Ex.exit 0) { tmps := [(3, SV.nils), (8, SV.ro t.nr 1 (railG t)), (9, SV.int .i64 (↑t.nr : Int)), (10, SV.int .i64 (↑i : Int))], store := [(1, none)], nxt := 2, dirty := [1, 2, 3, 4, 5], nt := 42 })) := by kernel_rfl
theorem tb_round1 (t : Trk) (m : Nat) (g : Nat → List SV) (i : Nat) (K : Ex → St → Prop) : roundE tbE (keepW tbR 0) tbF tbP 0 K (tbS t (.own 1 0 5 m) (some (.row 132 5 m g)) i) =
  (Br (decide ((↑i : Int) < (↑t.nr : Int))) (Br (decide (0 ≤ (↑i : Int)) && decide ((↑i : Int) < (↑t.nr : Int))) (Br (true && (decide (0 ≤ if 0 > IntKind.i64.wrap ((↑(t.rn (↑i : Int).toNat) : Int) - 1) then 0 else IntKind.i64.wrap ((↑(t.rn (↑i : Int).toNat) : Int) - 1)) && decide ((if 0 > IntKind.i64.wrap ((↑(t.rn (↑i : Int).toNat) : Int) - 1) then 0 else IntKind.i64.wrap ((↑(t.rn (↑i : Int).toNat) : Int) - 1)) ≤ (↑(t.rn (↑i : Int).toNat) : Int)))) (∃ q_, iter (roundE tbE (keepW tbR 0) tbF (tbP ++ [0] ++ tbI) 2) (nestK tbE (keepW tbR 0) tbF tbP 0 tbI K) q_ { tmps := [(3, SV.own 1 0 5 m), (4, SV.int .i64 (↑i : Int)), (5, SV.ro (t.rn (↑i : Int).toNat) 2 (ptsG (t.rx (↑i : Int).toNat) (t.ry (↑i : Int).toNat))), (21, SV.int .i64 (↑((if 0 > IntKind.i64.wrap ((↑(t.rn (↑i : Int).toNat) : Int) - 1) then 0 else IntKind.i64.wrap ((↑(t.rn (↑i : Int).toNat) : Int) - 1)).toNat - 0) : Int)), (22, SV.int .i64 0), (8, SV.ro t.nr 1 (railG t)), (9, SV.int .i64 (↑t.nr : Int)), (10, SV.int .i64 (↑i : Int))], store := [(1, some (SB.row 132 5 m g))], nxt := 2, dirty := [1, 2, 3, 4, 5], nt := 42 }) (False)) (False)) (K (Ex.exit 0) { tmps := [(3, SV.own 1 0 5 m), (8, SV.ro t.nr 1 (railG t)), (9, SV.int .i64 (↑t.nr : Int)), (10, SV.int .i64 (↑i : Int))], store := [(1, some (SB.row 132 5 m g))], nxt := 2, dirty := [1, 2, 3, 4, 5], nt := 42 })) := by kernel_rfl
theorem tb_in0 (t : Trk) (i r : Nat) (X Y : Nat → Int) (n k : Nat) (K : Ex → St → Prop) : roundE tbE (keepW tbR 0) tbF (tbP ++ [0] ++ tbI) 2 K (tbT t .nils none i r X Y n k) =
  (Br (decide ((↑k : Int) < (↑n : Int))) (Br (decide (0 ≤ (↑k : Int)) && decide ((↑k : Int) < (↑r : Int))) (Br (decide (0 ≤ IntKind.i64.wrap ((↑k : Int) + 1)) && decide (IntKind.i64.wrap ((↑k : Int) + 1) < (↑r : Int))) (K Ex.normal { tmps := [(3, SV.own 1 0 5 1), (4, SV.int .i64 (↑i : Int)), (5, SV.ro r 2 (farCells X Y)), (21, SV.int .i64 (↑n : Int)), (22, SV.int .i64 (IntKind.i64.wrap ((↑k : Int) + 1))), (8, SV.ro t.nr 1 (railG t)), (9, SV.int .i64 (↑t.nr : Int)), (10, SV.int .i64 (↑i : Int))], store := [(1, some (SB.row 132 5 1 fun (i_1 : Nat) => cut [SV.int .i64 (X (↑k : Int).toNat), SV.int .i64 (Y (↑k : Int).toNat), SV.int .i64 (X (IntKind.i64.wrap ((↑k : Int) + 1)).toNat), SV.int .i64 (Y (IntKind.i64.wrap ((↑k : Int) + 1)).toNat), SV.int .i64 (↑i : Int)] (i_1 * 5) 5))], nxt := 2, dirty := [1, 2, 3, 4, 5], nt := 42 }) (False)) (False)) (K (Ex.exit 2) { tmps := [(3, SV.nils), (4, SV.int .i64 (↑i : Int)), (5, SV.ro r 2 (farCells X Y)), (21, SV.int .i64 (↑n : Int)), (22, SV.int .i64 (↑k : Int)), (8, SV.ro t.nr 1 (railG t)), (9, SV.int .i64 (↑t.nr : Int)), (10, SV.int .i64 (↑i : Int))], store := [(1, none)], nxt := 2, dirty := [1, 2, 3, 4, 5], nt := 42 })) := by kernel_rfl
theorem tb_in1 (t : Trk) (m : Nat) (g : Nat → List SV) (i r : Nat) (X Y : Nat → Int) (n k : Nat) (K : Ex → St → Prop) : roundE tbE (keepW tbR 0) tbF (tbP ++ [0] ++ tbI) 2 K (tbT t (.own 1 0 5 m) (some (.row 132 5 m g)) i r X Y n k) =
  (Br (decide ((↑k : Int) < (↑n : Int))) (Br (decide (0 ≤ (↑k : Int)) && decide ((↑k : Int) < (↑r : Int))) (Br (decide (0 ≤ IntKind.i64.wrap ((↑k : Int) + 1)) && decide (IntKind.i64.wrap ((↑k : Int) + 1) < (↑r : Int))) (Br (decide ((m + 1) * 40 ≤ 1099511627776) && decide (m + 1 < 9223372036854775808) && decide (m = m)) (K Ex.normal { tmps := [(3, SV.own 1 0 5 (m + 1)), (4, SV.int .i64 (↑i : Int)), (5, SV.ro r 2 (farCells X Y)), (21, SV.int .i64 (↑n : Int)), (22, SV.int .i64 (IntKind.i64.wrap ((↑k : Int) + 1))), (8, SV.ro t.nr 1 (railG t)), (9, SV.int .i64 (↑t.nr : Int)), (10, SV.int .i64 (↑i : Int))], store := [(1, some (SB.row 132 5 (m + 1) (rowPut m [SV.int .i64 (X (↑k : Int).toNat), SV.int .i64 (Y (↑k : Int).toNat), SV.int .i64 (X (IntKind.i64.wrap ((↑k : Int) + 1)).toNat), SV.int .i64 (Y (IntKind.i64.wrap ((↑k : Int) + 1)).toNat), SV.int .i64 (↑i : Int)] g)))], nxt := 2, dirty := [1, 2, 3, 4, 5], nt := 42 }) (False)) (False)) (False)) (K (Ex.exit 2) { tmps := [(3, SV.own 1 0 5 m), (4, SV.int .i64 (↑i : Int)), (5, SV.ro r 2 (farCells X Y)), (21, SV.int .i64 (↑n : Int)), (22, SV.int .i64 (↑k : Int)), (8, SV.ro t.nr 1 (railG t)), (9, SV.int .i64 (↑t.nr : Int)), (10, SV.int .i64 (↑i : Int))], store := [(1, some (SB.row 132 5 m g))], nxt := 2, dirty := [1, 2, 3, 4, 5], nt := 42 })) := by kernel_rfl
theorem tb_nest0 (t : Trk) (i r : Nat) (X Y : Nat → Int) (n k : Nat) (K : Ex → St → Prop) : nestK tbE (keepW tbR 0) tbF tbP 0 tbI K (.exit 2) (tbT t .nils none i r X Y n k) =
  (K Ex.normal { tmps := [(3, SV.nils), (8, SV.ro t.nr 1 (railG t)), (9, SV.int .i64 (↑t.nr : Int)), (10, SV.int .i64 (IntKind.i64.wrap ((↑i : Int) + 1)))], store := [(1, none)], nxt := 2, dirty := [1, 2, 3, 4, 5], nt := 42 }) := by kernel_rfl
theorem tb_nest1 (t : Trk) (m : Nat) (g : Nat → List SV) (i r : Nat) (X Y : Nat → Int) (n k : Nat) (K : Ex → St → Prop) : nestK tbE (keepW tbR 0) tbF tbP 0 tbI K (.exit 2) (tbT t (.own 1 0 5 m) (some (.row 132 5 m g)) i r X Y n k) =
  (K Ex.normal { tmps := [(3, SV.own 1 0 5 m), (8, SV.ro t.nr 1 (railG t)), (9, SV.int .i64 (↑t.nr : Int)), (10, SV.int .i64 (IntKind.i64.wrap ((↑i : Int) + 1)))], store := [(1, some (SB.row 132 5 m g))], nxt := 2, dirty := [1, 2, 3, 4, 5], nt := 42 }) := by kernel_rfl
theorem tb_after0 (t : Trk) (i : Nat) (K : KC) : afterE tbE (keepW tbR 0) tbF tbP 0 K (.exit 0) (tbS t .nils none i) =
  (K SV.nils [] []) := by kernel_rfl
theorem tb_after1 (t : Trk) (m : Nat) (g : Nat → List SV) (i : Nat) (K : KC) : afterE tbE (keepW tbR 0) tbF tbP 0 K (.exit 0) (tbS t (.own 1 0 5 m) (some (.row 132 5 m g)) i) =
  (K (SV.own 0 0 5 m) [some (SB.row 132 5 m g)] []) := by kernel_rfl
theorem tb_inner (t : Trk) (i n : Nat) (L0 : List Bar) (hi : i < 20) (hr : t.rn i ≤ 100) (hn : n = t.rn i - 1) (hL : L0.length ≤ 2000) (K : Ex → St → Prop)
    (hK : ∀ o b, tellsL barT 5 1 bsv (L0 ++ barsN t i n) o b → K .normal (tbS t o b (i + 1 : Nat))) :
    ∀ (f : Nat) (a : Nat × SV × Option SB), (a.1 ≤ n ∧ tellsL barT 5 1 bsv (L0 ++ barsN t i a.1) a.2.1 a.2.2) → n - a.1 < f →
      iter (roundE tbE (keepW tbR 0) tbF (tbP ++ [0] ++ tbI) 2) (nestK tbE (keepW tbR 0) tbF tbP 0 tbI K) f (tbT t a.2.1 a.2.2 i (t.rn i) (t.rx i) (t.ry i) n a.1) :=
  loop_m (fun a : Nat × SV × Option SB => tbT t a.2.1 a.2.2 i (t.rn i) (t.rx i) (t.ry i) n a.1) (fun a => n - a.1) (fun a => a.1 ≤ n ∧ tellsL barT 5 1 bsv (L0 ++ barsN t i a.1) a.2.1 a.2.2) (fun a => by
    obtain ⟨k, o, b⟩ := a
    rintro ⟨hk, ht⟩ Z hZ
    simp only at hk ht hZ ⊢
    rcases ht with ⟨hl, rfl, rfl⟩ | ⟨g, hl, rfl, rfl, hg⟩
    · rw [tb_in0]
      refine Br.of (fun c => Br.of (fun _ => Br.of (fun _ => ?_) fun c1 => ?_) fun c1 => ?_) fun c => ?_
      · have c' := of_decide_eq_true c
        show Z _
        rw [wi64_succ (n := n) (by omega) (by omega)]
        simp only [Int.toNat_natCast]
        refine hZ (k + 1, _, _) ⟨by show k + 1 ≤ n; omega, ?_⟩ (by show n - (k + 1) < n - k; omega)
        show tellsL barT 5 1 bsv (L0 ++ barsN t i (k + 1)) _ _
        rw [barsN_succ, ← List.append_assoc, hl, List.nil_append]
        exact tells_first (barAt_sv t i k) rfl
      · have c' := of_decide_eq_true c
        rw [wi64_succ (n := n) (by omega) (by omega)] at c1
        simp only [Bool.and_eq_false_iff, decide_eq_false_iff_not] at c1; omega
      · have c' := of_decide_eq_true c
        simp only [Bool.and_eq_false_iff, decide_eq_false_iff_not] at c1; omega
      · have c' := of_decide_eq_false c
        have hkn : k = n := by omega
        subst hkn
        show nestK tbE (keepW tbR 0) tbF tbP 0 tbI K (.exit 2) (tbT t .nils none i (t.rn i) (t.rx i) (t.ry i) k k)
        rw [tb_nest0, wi64_succ (n := 20) (by omega) (by omega)]
        exact hK _ _ (.inl ⟨hl, rfl, rfl⟩)
    · rw [tb_in1]
      have hlen : (L0 ++ barsN t i k).length ≤ 2100 := by rw [List.length_append, barsN_len]; omega
      refine Br.of (fun c => Br.of (fun _ => Br.of (fun _ => Br.of (fun _ => ?_) fun c1 => ?_) fun c1 => ?_) fun c1 => ?_) fun c => ?_
      · have c' := of_decide_eq_true c
        show Z _
        rw [wi64_succ (n := n) (by omega) (by omega)]
        simp only [Int.toNat_natCast]
        refine hZ (k + 1, _, _) ⟨by show k + 1 ≤ n; omega, ?_⟩ (by show n - (k + 1) < n - k; omega)
        show tellsL barT 5 1 bsv (L0 ++ barsN t i (k + 1)) _ _
        rw [barsN_succ, ← List.append_assoc]
        exact tells_push (barAt_sv t i k) rfl hg
      · rw [Bool.and_eq_false_iff, Bool.and_eq_false_iff] at c1
        rcases c1 with (c1 | c1) | c1
        · have := of_decide_eq_false c1; omega
        · have := of_decide_eq_false c1; omega
        · exact absurd rfl (of_decide_eq_false c1)
      · have c' := of_decide_eq_true c
        rw [wi64_succ (n := n) (by omega) (by omega)] at c1
        simp only [Bool.and_eq_false_iff, decide_eq_false_iff_not] at c1; omega
      · have c' := of_decide_eq_true c
        simp only [Bool.and_eq_false_iff, decide_eq_false_iff_not] at c1; omega
      · have c' := of_decide_eq_false c
        have hkn : k = n := by omega
        subst hkn
        show nestK tbE (keepW tbR 0) tbF tbP 0 tbI K (.exit 2) (tbT t _ _ i (t.rn i) (t.rx i) (t.ry i) k k)
        rw [tb_nest1, wi64_succ (n := 20) (by omega) (by omega)]
        exact hK _ _ (.inr ⟨g, hl, rfl, rfl, hg⟩))
theorem bars_law (t : Trk) (hs : smallR t) (K : KC) (hK : rowsEnd barT 5 bsv (barL t) K) : runL tbR (fun _ => 0) p9 2 128 [.agg (trkC t)] [] K := by
  rw [tb_entry]
  obtain ⟨hs1, hs2⟩ := hs
  refine ⟨t.nr + 1, loop_m (fun a : Nat × SV × Option SB => tbS t a.2.1 a.2.2 a.1) (fun a => t.nr - a.1) (fun a => a.1 ≤ t.nr ∧ tellsL barT 5 1 bsv (allBars t a.1) a.2.1 a.2.2) (fun a => ?_) (t.nr + 1) (0, .nils, none) ⟨Nat.zero_le _, tells_nil⟩ (by omega)⟩
  obtain ⟨i, o, b⟩ := a
  rintro ⟨hi, ht⟩ Z hZ
  simp only at hi ht hZ ⊢
  have hlen : (allBars t i).length ≤ 2000 := by
    have := allBars_len hs2 i hi
    have : i * 100 ≤ 20 * 100 := Nat.mul_le_mul_right _ (by omega)
    omega
  have hinner : i < t.nr → ∃ q, iter (roundE tbE (keepW tbR 0) tbF (tbP ++ [0] ++ tbI) 2) (nestK tbE (keepW tbR 0) tbF tbP 0 tbI (nextK Z (afterE tbE (keepW tbR 0) tbF tbP 0 K))) q (tbT t o b i (t.rn i) (t.rx i) (t.ry i) (t.rn i - 1 : Nat) 0) := fun hlt =>
    ⟨(t.rn i - 1) + 1, tb_inner t i (t.rn i - 1) (allBars t i) (by omega) (hs2 i hlt) rfl hlen _ (fun o b h => hZ (i + 1, o, b) ⟨hlt, h⟩ (by show t.nr - (i + 1) < t.nr - i; omega)) _ (0, o, b)
      ⟨Nat.zero_le _, by show tellsL barT 5 1 bsv (allBars t i ++ barsN t i 0) o b; rw [show barsN t i 0 = [] from rfl, List.append_nil]; exact ht⟩ (by show t.rn i - 1 - 0 < _; omega)⟩
  have hend : i = t.nr → tellsL barT 5 1 bsv (barL t) o b := fun h => by subst h; exact ht
  rcases ht with ⟨hl, rfl, rfl⟩ | ⟨g, hl, rfl, rfl, hg⟩
  · rw [tb_round0]
    refine Br.of (fun c => Br.of (fun _ => Br.of (fun _ => ?_) fun c1 => ?_) fun c1 => ?_) fun c => ?_
    · have c' := of_decide_eq_true c
      have := hs2 i (by omega)
      simp only [Int.toNat_natCast]
      rw [max_pred (by omega)]
      simp only [Int.toNat_natCast, Nat.sub_zero]
      exact hinner (by omega)
    · have c' := of_decide_eq_true c
      have := hs2 i (by omega)
      simp only [Int.toNat_natCast] at c1
      rw [max_pred (by omega)] at c1
      simp only [Bool.true_and, Bool.and_eq_false_iff, decide_eq_false_iff_not] at c1; omega
    · have c' := of_decide_eq_true c
      simp only [Bool.and_eq_false_iff, decide_eq_false_iff_not] at c1; omega
    · have c' := of_decide_eq_false c
      show afterE tbE (keepW tbR 0) tbF tbP 0 K (.exit 0) (tbS t .nils none i)
      rw [tb_after0]
      rcases hend (by omega) with ⟨h, _, _⟩ | ⟨_, _, h, _⟩
      · exact hK.1 h
      · cases h
  · rw [tb_round1]
    refine Br.of (fun c => Br.of (fun _ => Br.of (fun _ => ?_) fun c1 => ?_) fun c1 => ?_) fun c => ?_
    · have c' := of_decide_eq_true c
      have := hs2 i (by omega)
      simp only [Int.toNat_natCast]
      rw [max_pred (by omega)]
      simp only [Int.toNat_natCast, Nat.sub_zero]
      exact hinner (by omega)
    · have c' := of_decide_eq_true c
      have := hs2 i (by omega)
      simp only [Int.toNat_natCast] at c1
      rw [max_pred (by omega)] at c1
      simp only [Bool.true_and, Bool.and_eq_false_iff, decide_eq_false_iff_not] at c1; omega
    · have c' := of_decide_eq_true c
      simp only [Bool.and_eq_false_iff, decide_eq_false_iff_not] at c1; omega
    · have c' := of_decide_eq_false c
      show afterE tbE (keepW tbR 0) tbF tbP 0 K (.exit 0) (tbS t _ _ i)
      rw [tb_after1]
      have hi' : i = t.nr := by omega
      subst hi'
      exact hK.2 g hl hg
theorem bars_ok (t : Trk) (hs : smallR t) : CallOK Tryz.prog 128 [.agg (trkC t)] [] (.ro (barL t).length 5 (barG (barL t))) [] [] :=
  callOK_rows (fun _ => rfl) fun K hK => calls_sat (env := tab.env p9 (fun _ => 0) (fun _ => false)) ⟨tab.htt, p9.ok⟩ tab.mixed (fun n => keepW_weaker n tbR) tab.hft 2 _ _ _ K (bars_law t hs K hK)
end Go.Proofs.YtbedljhbakdghaaGreatDoor

