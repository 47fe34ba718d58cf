import Derived.Test.YtjlmofhokbnloaaDoorMm
import Derived.Test.YtjlmofhokbnloaaDoorSeFrzAll
namespace Go.Proofs.YtjlmofhokbnloaaDoor
open Go.Se
set_option maxRecDepth 100000
abbrev isT : TypeId := 32
noncomputable def rnL : SB := recL Tryd.f16 15 [(7, .junk), (6, .junk), (3, .ptr 1 0), (2, .junk), (0, .junk)]
def qrR : List (Nat × Keep × List ((Nat × List Nat) × Nat)) := [(0, ⟨[0, 1], [0, 1, 2, 3], [0, 1, 2, 3, 4, 5, 6, 7], 4, []⟩, [((0, [3, 0]), 3)])]
noncomputable abbrev qrE : Env := envP qrR (fun _ => 0) c4 3
noncomputable abbrev qrF : Func := Tryd.f83
noncomputable def qrS (n : Nat) (X : Nat → Ct) (o : SV) (r : Option SB) : St := ⟨[(0, .yld 0), (1, .ptr 2 0)], [(0, some rnL), (1, some (.cells isT [o])), (2, some (.cells csT [.ro n 7 (ctG X)])), (3, r)], 4, [0, 1, 2, 3, 4, 5, 6, 7], 26⟩
theorem qr_entry (n : Nat) (X : Nat → Ct) (K : KC) : runP qrR (fun _ => 0) c4 4 83 [.yld 0, .ptr 2 0] [some rnL, some (.cells isT [.nils]), some (.cells csT [.ro n 7 (ctG X)])] K =
  (∃ q_, loopE qrE (keepP qrR 3) qrF [0] 0 3 K q_ { tmps := [(0, SV.yld 0), (1, SV.ptr 2 0)], store := [(0, some (rnL)), (1, some (SB.cells 32 [SV.nils])), (2, some (SB.cells 23 [SV.ro n 7 (ctG X)])), (3, none)], nxt := 4, dirty := [0, 1, 2, 3, 4, 5, 6, 7], nt := 26 }) := by kernel_rfl
theorem qr_round0 (n : Nat) (X : Nat → Ct) (K : Ex → St → Prop) : roundE qrE (keepP qrR 3) qrF [0] 0 K (qrS n X .nils none) =
  (Br (decide ((↑n : Int) > 0)) (Br (true && decide (0 < (↑n : Int))) (∃ (e398 : Nat → Ct), ∃ (e397 : Ct), (ctG X = ctG e398 ∧ (ctC (X (Int.toNat 0))) = (ctC e397)) ∧ (Br (decide (ixFrom (fun (i : Nat) => !eqCt (e398 i) e397) n 0 < 0)) (Br (decide (0 ≤ (↑n : Int)) && (decide ((↑n : Int) ≤ (↑n : Int)) && decide ((↑n : Int) ≤ (↑n : Int)))) (K Ex.normal { tmps := [(0, SV.yld 0), (1, SV.ptr 2 0)], store := [(0, some (rnL)), (1, some (SB.cells 32 [SV.own 3 0 1 1])), (2, some (SB.cells 23 [SV.ro ((↑n : Int).toNat - (↑n : Int).toNat) 7 fun (i : Nat) => ctG X (i + (↑n : Int).toNat)])), (3, some (SB.row 3 1 1 fun (i : Nat) => cut [SV.int .i64 (↑n : Int)] (i * 1) 1))], nxt := 4, dirty := [0, 1, 2, 3, 4, 5, 6, 7], nt := 26 }) (False)) (Br (decide (0 ≤ ixFrom (fun (i : Nat) => !eqCt (e398 i) e397) n 0) && (decide (ixFrom (fun (i : Nat) => !eqCt (e398 i) e397) n 0 ≤ (↑n : Int)) && decide ((↑n : Int) ≤ (↑n : Int)))) (K Ex.normal { tmps := [(0, SV.yld 0), (1, SV.ptr 2 0)], store := [(0, some (rnL)), (1, some (SB.cells 32 [SV.own 3 0 1 1])), (2, some (SB.cells 23 [SV.ro ((↑n : Int).toNat - (ixFrom (fun (i : Nat) => !eqCt (e398 i) e397) n 0).toNat) 7 fun (i : Nat) => ctG X (i + (ixFrom (fun (i : Nat) => !eqCt (e398 i) e397) n 0).toNat)])), (3, some (SB.row 3 1 1 fun (i : Nat) => cut [SV.int .i64 (ixFrom (fun (i : Nat) => !eqCt (e398 i) e397) n 0)] (i * 1) 1))], nxt := 4, dirty := [0, 1, 2, 3, 4, 5, 6, 7], nt := 26 }) (False)))) (False)) (K (Ex.exit 0) { tmps := [(0, SV.yld 0), (1, SV.ptr 2 0)], store := [(0, some (rnL)), (1, some (SB.cells 32 [SV.nils])), (2, some (SB.cells 23 [SV.ro n 7 (ctG X)])), (3, none)], nxt := 4, dirty := [0, 1, 2, 3, 4, 5, 6, 7], nt := 26 })) := by kernel_rfl
theorem qr_round1 (n : Nat) (X : Nat → Ct) (m : Nat) (g : Nat → List SV) (K : Ex → St → Prop) : roundE qrE (keepP qrR 3) qrF [0] 0 K (qrS n X (.own 3 0 1 m) (some (.row 3 1 m g))) =
  (Br (decide ((↑n : Int) > 0)) (Br (true && decide (0 < (↑n : Int))) (∃ (e398 : Nat → Ct), ∃ (e397 : Ct), (ctG X = ctG e398 ∧ (ctC (X (Int.toNat 0))) = (ctC e397)) ∧ (Br (decide (ixFrom (fun (i : Nat) => !eqCt (e398 i) e397) n 0 < 0)) (Br (decide ((m + 1) * 8 ≤ 1099511627776) && decide (m + 1 < 9223372036854775808) && decide (m = m)) (Br (decide (0 ≤ (↑n : Int)) && (decide ((↑n : Int) ≤ (↑n : Int)) && decide ((↑n : Int) ≤ (↑n : Int)))) (K Ex.normal { tmps := [(0, SV.yld 0), (1, SV.ptr 2 0)], store := [(0, some (rnL)), (1, some (SB.cells 32 [SV.own 3 0 1 (m + 1)])), (2, some (SB.cells 23 [SV.ro ((↑n : Int).toNat - (↑n : Int).toNat) 7 fun (i : Nat) => ctG X (i + (↑n : Int).toNat)])), (3, some (SB.row 3 1 (m + 1) (rowPut m [SV.int .i64 (↑n : Int)] g)))], nxt := 4, dirty := [0, 1, 2, 3, 4, 5, 6, 7], nt := 26 }) (False)) (False)) (Br (decide ((m + 1) * 8 ≤ 1099511627776) && decide (m + 1 < 9223372036854775808) && decide (m = m)) (Br (decide (0 ≤ ixFrom (fun (i : Nat) => !eqCt (e398 i) e397) n 0) && (decide (ixFrom (fun (i : Nat) => !eqCt (e398 i) e397) n 0 ≤ (↑n : Int)) && decide ((↑n : Int) ≤ (↑n : Int)))) (K Ex.normal { tmps := [(0, SV.yld 0), (1, SV.ptr 2 0)], store := [(0, some (rnL)), (1, some (SB.cells 32 [SV.own 3 0 1 (m + 1)])), (2, some (SB.cells 23 [SV.ro ((↑n : Int).toNat - (ixFrom (fun (i : Nat) => !eqCt (e398 i) e397) n 0).toNat) 7 fun (i : Nat) => ctG X (i + (ixFrom (fun (i : Nat) => !eqCt (e398 i) e397) n 0).toNat)])), (3, some (SB.row 3 1 (m + 1) (rowPut m [SV.int .i64 (ixFrom (fun (i : Nat) => !eqCt (e398 i) e397) n 0)] g)))], nxt := 4, dirty := [0, 1, 2, 3, 4, 5, 6, 7], nt := 26 }) (False)) (False)))) (False)) (K (Ex.exit 0) { tmps := [(0, SV.yld 0), (1, SV.ptr 2 0)], store := [(0, some (rnL)), (1, some (SB.cells 32 [SV.own 3 0 1 m])), (2, some (SB.cells 23 [SV.ro n 7 (ctG X)])), (3, some (SB.row 3 1 m g))], nxt := 4, dirty := [0, 1, 2, 3, 4, 5, 6, 7], nt := 26 })) := by kernel_rfl
theorem qr_after0 (n : Nat) (X : Nat → Ct) (K : KC) : afterE qrE (keepP qrR 3) qrF [0] 3 K (.exit 0) (qrS n X .nils none) =
  (K (SV.tup []) [some (rnL), some (SB.cells 32 [SV.nils]), some (SB.cells 23 [SV.ro n 7 (ctG X)])] [0, 1, 2]) := by kernel_rfl
theorem qr_after1 (n : Nat) (X : Nat → Ct) (m : Nat) (g : Nat → List SV) (K : KC) : afterE qrE (keepP qrR 3) qrF [0] 3 K (.exit 0) (qrS n X (.own 3 0 1 m) (some (.row 3 1 m g))) =
  (K (SV.tup []) [some (rnL), some (SB.cells 32 [SV.own 3 0 1 m]), some (SB.cells 23 [SV.ro n 7 (ctG X)]), some (SB.row 3 1 m g)] [0, 1, 2]) := by kernel_rfl
def niC (x : Int) : List SV := [.int .i64 x]
theorem qr_step (n : Nat) (X : Nat → Ct) (L : List Int) (o : SV) (r : Option SB) (ht : tellsL 3 1 3 niC L o r) (hn : 0 < n) (hm : n ≤ 16777216) (hl : L.length ≤ 16777216) {KK : Ex → St → Prop} {N : St → Prop}
    (hN : ∀ o' r', tellsL 3 1 3 niC (L ++ [(runK X n : Int)]) o' r' → N (qrS (n - runK X n) (fun i => X (i + runK X n)) o' r')) : roundE qrE (keepP qrR 3) qrF [0] 0 (nextK N KK) (qrS n X o r) := by
  have hk := runK_le (Y := X) (m := n)
  have hix : (runK X n < n ∧ ixFrom (fun i => !eqCt (X i) (X 0)) n 0 = (runK X n : Int)) ∨ (runK X n = n ∧ ixFrom (fun i => !eqCt (X i) (X 0)) n 0 = -1) := by
    by_cases hlt : runK X n < n
    · left
      refine ⟨hlt, ?_⟩
      show (bif decide (runK X n < n) then (runK X n : Int) else -1) = _
      rw [decide_eq_true hlt]; rfl
    · right
      refine ⟨by omega, ?_⟩
      show (bif decide (runK X n < n) then (runK X n : Int) else -1) = _
      rw [decide_eq_false hlt]; rfl
  rcases ht with ⟨rfl, rfl, rfl⟩ | ⟨g, hne, rfl, rfl, hg⟩
  · rw [qr_round0]
    refine Br.of (fun _ => Br.of (fun _ => ⟨X, X 0, ⟨rfl, rfl⟩, ?_⟩) fun f => absurd f (by simp; omega)) fun f => absurd (of_decide_eq_false f) (by omega)
    rcases hix with ⟨h1, h2⟩ | ⟨h1, h2⟩
    · rw [h2]
      generalize runK X n = k at *
      refine Br.of (fun f => absurd (of_decide_eq_true f) (by omega)) fun _ => Br.of (fun _ => ?_) fun f => absurd f (by simp; omega)
      simp only [Int.toNat_natCast]
      exact hN _ _ (tells_first rfl rfl)
    · rw [h2]
      rw [h1] at hN
      refine Br.of (fun _ => Br.of (fun _ => ?_) fun f => absurd f (by simp)) fun f => absurd (of_decide_eq_false f) (by omega)
      simp only [Int.toNat_natCast]
      exact hN _ _ (tells_first rfl rfl)
  · rw [qr_round1]
    refine Br.of (fun _ => Br.of (fun _ => ⟨X, X 0, ⟨rfl, rfl⟩, ?_⟩) fun f => absurd f (by simp; omega)) fun f => absurd (of_decide_eq_false f) (by omega)
    rcases hix with ⟨h1, h2⟩ | ⟨h1, h2⟩
    · rw [h2]
      generalize runK X n = k at *
      refine Br.of (fun f => absurd (of_decide_eq_true f) (by omega)) fun _ => Br.of (fun _ => Br.of (fun _ => ?_) fun f => absurd f (by simp; omega)) fun f => absurd f (by simp; omega)
      simp only [Int.toNat_natCast]
      exact hN _ _ (tells_push rfl rfl hg)
    · rw [h2]
      rw [h1] at hN
      refine Br.of (fun _ => Br.of (fun _ => Br.of (fun _ => ?_) fun f => absurd f (by simp)) fun f => absurd f (by simp; omega)) fun f => absurd (of_decide_eq_false f) (by omega)
      simp only [Int.toNat_natCast]
      exact hN _ _ (tells_push rfl rfl hg)
theorem qr_law (n : Nat) (X : Nat → Ct) (hm : n ≤ 16777216) (K : KC)
    (hK : ∀ o r, tellsL 3 1 3 niC (runsS X n 0) o r → afterE qrE (keepP qrR 3) qrF [0] 3 K (.exit 0) (qrS 0 (fun i => X (i + n)) o r)) :
    runP qrR (fun _ => 0) c4 4 83 [.yld 0, .ptr 2 0] [some rnL, some (.cells isT [.nils]), some (.cells csT [.ro n 7 (ctG X)])] K := by
  rw [qr_entry]
  refine ⟨n + 1, loop_m (fun a : Nat × List Int × SV × Option SB => qrS (n - a.1) (fun i => X (i + a.1)) a.2.2.1 a.2.2.2) (fun a => n - a.1) (fun a => a.1 ≤ n ∧ a.2.1 ++ runsS X n a.1 = runsS X n 0 ∧ a.2.1.length ≤ a.1 ∧ tellsL 3 1 3 niC a.2.1 a.2.2.1 a.2.2.2) ?_ (n + 1) (0, [], .nils, none) ⟨Nat.zero_le _, rfl, Nat.le_refl _, tells_nil⟩ (by show n - 0 < _; omega)⟩
  rintro ⟨p, L, o, r⟩ ⟨h1, h2, h3, ht⟩ Y hY
  simp only at h1 h2 h3 ht hY ⊢
  by_cases hp : p < n
  · have k1 := rnN_pos (X := X) hp
    have k2 := rnN_le (X := X) (n := n) (p := p)
    refine qr_step (n - p) (fun i => X (i + p)) L o r ht (by omega) (by omega) (by omega) fun o' r' ht' => ?_
    have := hY (p + rnN X n p, L ++ [(rnN X n p : Int)], o', r') ⟨by show p + rnN X n p ≤ n; omega, by show (L ++ [(rnN X n p : Int)]) ++ runsS X n (p + rnN X n p) = _; rw [List.append_assoc, List.singleton_append, ← runsS_step hp]; exact h2, by show (L ++ [(rnN X n p : Int)]).length ≤ p + rnN X n p; rw [List.length_append, List.length_singleton]; omega, ht'⟩ (by show n - (p + rnN X n p) < n - p; omega)
    show Y (qrS (n - p - rnN X n p) (fun i => X (i + rnN X n p + p)) o' r')
    rw [Nat.sub_sub, show (fun i => X (i + rnN X n p + p)) = fun i => X (i + (p + rnN X n p)) from funext fun i => by rw [Nat.add_assoc, Nat.add_comm p]]
    exact this
  · obtain rfl : p = n := by omega
    rw [runsS_end (Nat.le_refl p), List.append_nil] at h2
    have ht2 := ht
    rw [h2] at ht2
    have fin := hK o r ht2
    rcases ht with ⟨_, rfl, rfl⟩ | ⟨g, _, rfl, rfl, _⟩
    · rw [qr_round0]
      refine Br.of (fun c => absurd (of_decide_eq_true c) (by omega)) fun _ => ?_
      rw [Nat.sub_self]; exact fin
    · rw [qr_round1]
      refine Br.of (fun c => absurd (of_decide_eq_true c) (by omega)) fun _ => ?_
      rw [Nat.sub_self]; exact fin
def isNi (L : List Int) (g : Nat → List SV) : Prop := ∀ j (h : j < L.length), g j = niC L[j]
def cRn2 : List SV → List (Option SB) → KC → Prop
  | [.yld 0, .ptr 2 0], [some rec, some (.cells 32 [.nils]), some (.cells 23 [.ro n 7 h])], K =>
    ∃ X : Nat → Ct, ((rec = rnL ∧ h = ctG X) ∧ n ≤ 16777216) ∧
      Br (runsS X n 0).isEmpty (K (.tup []) [some rnL, some (.cells 32 [.nils]), some (.cells 23 [.ro 0 7 (ctG fun i => X (i + n))])] [0, 1, 2])
        (∀ g : Nat → List SV, isNi (runsS X n 0) g → K (.tup []) [some rnL, some (.cells 32 [.own 3 0 1 (runsS X n 0).length]), some (.cells 23 [.ro 0 7 (ctG fun i => X (i + n))]), some (.row 3 1 (runsS X n 0).length g)] [0, 1, 2])
  | _, _, _ => False
theorem rn2_sat (xs : List SV) (σ : List (Option SB)) : Sat Tryd.prog 83 xs σ (cRn2 xs σ) := by
  intro K hK
  unfold cRn2 at hK
  split at hK
  case h_2 => exact hK.elim
  obtain ⟨X, ⟨⟨rfl, rfl⟩, hm⟩, hK⟩ := hK
  refine calls_sat (env := tab.env c4 (fun _ => 0) (fun _ => false)) ⟨tab.htt, c4.ok⟩ tab.mixed (fun n => keepP_weaker n qrR) tab.hft 4 _ _ _ K (qr_law _ X hm K fun o r ht => ?_)
  rcases ht with ⟨h1, rfl, rfl⟩ | ⟨g, _, rfl, rfl, hg⟩
  · rw [qr_after0]
    rw [show (runsS X _ 0).isEmpty = true by rw [h1]; rfl] at hK
    exact hK
  · rw [qr_after1]
    rename_i hne
    rw [show (runsS X _ 0).isEmpty = false by rw [Bool.eq_false_iff]; exact fun e => hne (List.isEmpty_iff.1 e)] at hK
    exact hK g hg
noncomputable def c13 : Know Tryd.prog := (c12).add 83 cRn2 rn2_sat
theorem prr_nf (n : Nat) (X : Nat → Ct) (K : KC) : runL [] (fun _ => 0) c13 3 16 [.ro n 7 (ctG X)] [] K =
  (∃ (e400 : Nat → Ct), ((rnL = rnL ∧ ctG X = ctG e400) ∧ n ≤ 16777216) ∧ (Br ((runsS e400 n 0).isEmpty) (K SV.nils [] []) (∀ (g397 : Nat → List SV), ∀ (_ : isNi (runsS e400 n 0) g397), K (SV.own 0 0 1 (runsS e400 n 0).length) [some (SB.row 3 1 (runsS e400 n 0).length g397)] []))) := by kernel_rfl
theorem runs_ok (n : Nat) (X : Nat → Ct) (hn : n ≤ 16777216) : CallOK Tryd.prog 16 [.ro n 7 (ctG X)] [] (.ro (runsS X n 0).length 1 (listG niC 0 (runsS X n 0))) [] [] := by
  refine runL_rows (R := []) (u := fun _ => 0) (B := c13) (n := 3) (e := 3) (f := niC) (d0 := 0) (L := runsS X n 0) (fun _ => rfl) ?_
  intro _ K hK
  rw [prr_nf]
  refine ⟨X, ⟨⟨rfl, rfl⟩, hn⟩, Br.of (fun c => hK.1 (List.isEmpty_iff.1 c)) fun c g hg => hK.2 g (fun e => ?_) hg⟩
  rw [e] at c; cases c
end Go.Proofs.YtjlmofhokbnloaaDoor

namespace Go.Proofs.YtjlmofhokbnloaaDoor
open Go.Se
set_option maxRecDepth 100000
noncomputable abbrev runQ (R : List (Nat × Keep)) (ts : List Nat) (u : Nat → Nat) (B : Know Tryd.prog) (n : Nat) (k : FuncId) (xs : List SV) (σ : List (Option SB)) (K : KC) : Prop :=
  calls (tab.env B u (fun _ => false)) (keepQ R ts) B.dom n k xs σ K
noncomputable abbrev envQ (R : List (Nat × Keep)) (ts : List Nat) (u : Nat → Nat) (B : Know Tryd.prog) (n : Nat) : Env :=
  { tab.env B u (fun _ => false) with callee := calls (tab.env B u (fun _ => false)) (keepQ R ts) B.dom n, round := fun xs σ K => calls.roundsN (tab.env B u (fun _ => false)) (keepQ R ts) B.dom n xs σ K }
def cRus : List SV → List (Option SB) → KC → Prop
  | [.ro n 7 g], [], K => ∃ X : Nat → Ct, (g = ctG X ∧ n ≤ 16777216) ∧ K (.ro (runsS X n 0).length 1 (listG niC 0 (runsS X n 0))) [] []
  | _, _, _ => False
theorem rus_sat (xs : List SV) (σ : List (Option SB)) : Sat Tryd.prog 16 xs σ (cRus xs σ) := by
  intro K hK
  unfold cRus at hK
  split at hK
  case h_2 => exact hK.elim
  obtain ⟨X, ⟨rfl, h1⟩, hK⟩ := hK
  exact ⟨_, _, _, hK, runs_ok _ X h1⟩
noncomputable def c14 : Know Tryd.prog := (c13).add 16 cRus rus_sat
def niG (V : Nat → Int) : Nat → List SV := fun i => [.int .i64 (V i)]
def quR : List (Nat × Keep) := [(0, ⟨[0, 3, 4], [0], [0, 1, 2, 3, 4], 1, [(3, 0)]⟩)]
noncomputable abbrev quE : Env := envQ quR [3] (fun _ => 0) c14 1
noncomputable abbrev quF : Func := Tryd.f17
abbrev quP : List Nat := [1, 1, 0, 1, 0]
def quS (n : Nat) (X : Nat → Ct) (o : SV) (r : Option SB) (i : Int) : St := ⟨[(0, .ro n 7 (ctG X)), (3, o), (4, .int .i64 i)], [(0, r)], 1, [0, 1, 2, 3, 4], 37⟩
theorem qu_entry (n : Nat) (X : Nat → Ct) (K : KC) : runQ quR [3] (fun _ => 0) c14 2 17 [.ro n 7 (ctG X)] [] K =
  (∃ q_, loopE quE (keepQ quR [3] 0) quF quP 0 0 K q_ { tmps := [(0, SV.ro n 7 (ctG X)), (3, SV.nils), (4, SV.int .i64 0)], store := [(0, none)], nxt := 1, dirty := [0, 1, 2, 3, 4], nt := 37 }) := by kernel_rfl
theorem qu_round0 (n : Nat) (X : Nat → Ct) (K : Ex → St → Prop) : roundE quE (keepQ quR [3] 0) quF quP 0 K (quS n X .nils none 0) =
  (Br (decide (0 < (↑n : Int))) (K Ex.normal { tmps := [(0, SV.ro n 7 (ctG X)), (3, SV.own 0 0 1 1), (4, SV.int .i64 1)], store := [(0, some (SB.row 3 1 1 fun (x : Nat) => cut [SV.int .i64 1] 0 1))], nxt := 1, dirty := [0, 1, 2, 3, 4], nt := 37 }) (K (Ex.exit 0) { tmps := [(0, SV.ro n 7 (ctG X)), (3, SV.nils), (4, SV.int .i64 0)], store := [(0, none)], nxt := 1, dirty := [0, 1, 2, 3, 4], nt := 37 })) := by kernel_rfl
theorem qu_round1 (n : Nat) (X : Nat → Ct) (m : Nat) (V : Nat → Int) (i : Nat) (K : Ex → St → Prop) : roundE quE (keepQ quR [3] 0) quF quP 0 K (quS n X (.own 0 0 1 m) (some (.row 3 1 m (niG V))) i) =
  (Br (decide ((↑i : Int) < (↑n : Int))) (Br (decide ((↑i : Int) > 0)) (Br (decide (0 ≤ (↑i : Int)) && decide ((↑i : Int) < (↑n : Int))) (Br (decide (0 ≤ IntKind.i64.wrap ((↑i : Int) - 1)) && decide (IntKind.i64.wrap ((↑i : Int) - 1) < (↑n : Int))) (Br ((X (↑i : Int).toNat).t == (X (IntKind.i64.wrap ((↑i : Int) - 1)).toNat).t && ((X (↑i : Int).toNat).b == (X (IntKind.i64.wrap ((↑i : Int) - 1)).toNat).b && ((X (↑i : Int).toNat).c == (X (IntKind.i64.wrap ((↑i : Int) - 1)).toNat).c && ((X (↑i : Int).toNat).s == (X (IntKind.i64.wrap ((↑i : Int) - 1)).toNat).s && ((X (↑i : Int).toNat).g == (X (IntKind.i64.wrap ((↑i : Int) - 1)).toNat).g && ((X (↑i : Int).toNat).a == (X (IntKind.i64.wrap ((↑i : Int) - 1)).toNat).a && (X (↑i : Int).toNat).r == (X (IntKind.i64.wrap ((↑i : Int) - 1)).toNat).r)))))) (Br (decide (0 ≤ IntKind.i64.wrap ((↑m : Int) - 1)) && decide (IntKind.i64.wrap ((↑m : Int) - 1) < (↑m : Int))) (Br (decide (0 + (IntKind.i64.wrap ((↑m : Int) - 1)).toNat < m)) (Br (decide (0 ≤ IntKind.i64.wrap ((↑m : Int) - 1)) && decide (IntKind.i64.wrap ((↑m : Int) - 1) < (↑m : Int))) (Br (decide (0 + (IntKind.i64.wrap ((↑m : Int) - 1)).toNat < m)) (K Ex.normal { tmps := [(0, SV.ro n 7 (ctG X)), (3, SV.own 0 0 1 m), (4, SV.int .i64 (IntKind.i64.wrap ((↑i : Int) + 1)))], store := [(0, some (SB.row 3 1 m (rowPut (0 + (IntKind.i64.wrap ((↑m : Int) - 1)).toNat) [SV.int .i64 (IntKind.i64.wrap (V (0 + (IntKind.i64.wrap ((↑m : Int) - 1)).toNat) + 1))] (niG V))))], nxt := 1, dirty := [0, 1, 2, 3, 4], nt := 37 }) (False)) (False)) (False)) (False)) (Br (decide ((m + 1) * 8 ≤ 1099511627776) && decide (m + 1 < 9223372036854775808) && decide (m = m)) (K Ex.normal { tmps := [(0, SV.ro n 7 (ctG X)), (3, SV.own 0 0 1 (m + 1)), (4, SV.int .i64 (IntKind.i64.wrap ((↑i : Int) + 1)))], store := [(0, some (SB.row 3 1 (m + 1) (rowPut m [SV.int .i64 1] (niG V))))], nxt := 1, dirty := [0, 1, 2, 3, 4], nt := 37 }) (False))) (False)) (False)) (Br (decide ((m + 1) * 8 ≤ 1099511627776) && decide (m + 1 < 9223372036854775808) && decide (m = m)) (K Ex.normal { tmps := [(0, SV.ro n 7 (ctG X)), (3, SV.own 0 0 1 (m + 1)), (4, SV.int .i64 (IntKind.i64.wrap ((↑i : Int) + 1)))], store := [(0, some (SB.row 3 1 (m + 1) (rowPut m [SV.int .i64 1] (niG V))))], nxt := 1, dirty := [0, 1, 2, 3, 4], nt := 37 }) (False))) (K (Ex.exit 0) { tmps := [(0, SV.ro n 7 (ctG X)), (3, SV.own 0 0 1 m), (4, SV.int .i64 (↑i : Int))], store := [(0, some (SB.row 3 1 m (niG V)))], nxt := 1, dirty := [0, 1, 2, 3, 4], nt := 37 })) := by kernel_rfl
theorem qu_after0 (n : Nat) (X : Nat → Ct) (i : Nat) (K : KC) : afterE quE (keepQ quR [3] 0) quF quP 0 K (.exit 0) (quS n X .nils none i) =
  (K SV.nils [] []) := by kernel_rfl
theorem qu_after1 (n : Nat) (X : Nat → Ct) (m : Nat) (V : Nat → Int) (i : Nat) (K : KC) : afterE quE (keepQ quR [3] 0) quF quP 0 K (.exit 0) (quS n X (.own 0 0 1 m) (some (.row 3 1 m (niG V))) i) =
  (K (SV.own 0 0 1 m) [some (SB.row 3 1 m (niG V))] []) := by kernel_rfl
def updI (i : Nat) (v : Int) (V : Nat → Int) : Nat → Int := fun j => bif decide (j = i) then v else V j
theorem rowPut_niG (i : Nat) (v : Int) (V : Nat → Int) : rowPut i [.int .i64 v] (niG V) = niG (updI i v V) := by
  funext j
  unfold rowPut niG updI
  cases decide (j = i) <;> rfl
theorem updI_t {i : Nat} {v : Int} {V : Nat → Int} : updI i v V i = v := by unfold updI; rw [decide_eq_true rfl]; rfl
theorem updI_f {i j : Nat} {v : Int} {V : Nat → Int} (h : j ≠ i) : updI i v V j = V j := by unfold updI; rw [decide_eq_false h]; rfl
structure quI (n : Nat) (X : Nat → Ct) (i : Nat) (V : Nat → Int) (R : List Int) (p : Nat) : Prop where
  lt : p < i
  same : ∀ j, p ≤ j → j < i → X j = X p
  le : i - p ≤ rnN X n p
  eq : R ++ runsS X n p = runsS X n 0
  old : ∀ j (h : j < R.length), V j = R[j]
  last : V R.length = ((i - p : Nat) : Int)
theorem quI.iff {n : Nat} {X : Nat → Ct} {i p : Nat} {V : Nat → Int} {R : List Int} (h : quI n X i V R p) (hi : i < n) : eqCt (X i) (X (i - 1)) = true ↔ i - p < rnN X n p := by
  have h1 := h.lt
  have h2 : X (i - 1) = X p := h.same (i - 1) (by omega) (by omega)
  have h3 := h.le
  rw [eqCt_iff, h2]
  constructor
  · intro e
    refine Nat.lt_of_le_of_ne h3 fun e2 => ?_
    have e3 : p + rnN X n p = i := by omega
    have := rnN_next (X := X) (n := n) (p := p) (by omega)
    rw [e3] at this
    exact this e.symm
  · intro hlt
    have := rnN_same hlt
    rwa [show p + (i - p) = i by omega] at this
theorem qu_law (n : Nat) (X : Nat → Ct) (hn : n ≤ 16777216) (K : KC) (hK : rowsEnd 3 1 niC (runsS X n 0) K) : runQ quR [3] (fun _ => 0) c14 2 17 [.ro n 7 (ctG X)] [] K := by
  rw [qu_entry]
  refine ⟨n + 1, loop_m (fun a : Nat × SV × Option SB => quS n X a.2.1 a.2.2 a.1) (fun a => n - a.1) (fun a => a.1 ≤ n ∧ ((a.1 = 0 ∧ a.2.1 = .nils ∧ a.2.2 = none) ∨ ∃ V R p, a.2.1 = .own 0 0 1 (R.length + 1) ∧ a.2.2 = some (.row 3 1 (R.length + 1) (niG V)) ∧ quI n X a.1 V R p)) ?_ (n + 1) (0, .nils, none) ⟨Nat.zero_le _, .inl ⟨rfl, rfl, rfl⟩⟩ (by show n - 0 < _; omega)⟩
  rintro ⟨i, o, r⟩ ⟨h1, h2⟩ Y hY
  simp only at h1 h2 hY ⊢
  rcases h2 with ⟨rfl, rfl, rfl⟩ | ⟨V, R, p, rfl, rfl, hI⟩
  · show roundE quE (keepQ quR [3] 0) quF quP 0 _ (quS n X .nils none 0)
    rw [qu_round0]
    refine Br.of (fun c => ?_) fun c => ?_
    · have c : 0 < n := by have := of_decide_eq_true c; omega
      have hp := rnN_pos (X := X) c
      refine hY (1, .own 0 0 1 1, some (.row 3 1 1 (niG fun _ => 1))) ⟨c, .inr ⟨fun _ => 1, [], 0, rfl, rfl, ⟨by show 0 < 1; omega, fun j _ hj => ?_, hp, rfl, fun j hj => absurd hj (Nat.not_lt_zero j), rfl⟩⟩⟩ (by show n - 1 < n - 0; omega)
      have hj : j < 1 := hj
      rw [show j = 0 by omega]
    · have c : n = 0 := by have := of_decide_eq_false c; omega
      subst c
      show afterE quE (keepQ quR [3] 0) quF quP 0 K (.exit 0) (quS 0 X .nils none ((0 : Nat) : Int))
      rw [qu_after0]
      exact hK.1 (runsS_end (Nat.le_refl 0))
  · have hlt := hI.lt
    have hRl : R.length ≤ n := by
      have e := congrArg List.length hI.eq
      rw [List.length_append] at e
      have := runsS_len (X := X) (n := n)
      omega
    rw [qu_round1]
    refine Br.of (fun c => ?_) fun c => ?_
    · have c : i < n := by have := of_decide_eq_true c; omega
      have hpn := hI.iff c
      rw [show IntKind.i64.wrap ((i : Int) + 1) = ((i + 1 : Nat) : Int) by rw [wi64]; omega, show IntKind.i64.wrap ((i : Int) - 1) = ((i - 1 : Nat) : Int) by rw [wi64]; omega]
      rw [show IntKind.i64.wrap (((R.length + 1 : Nat) : Int) - 1) = ((R.length : Nat) : Int) by rw [wi64]; omega]
      simp only [Int.toNat_natCast, Nat.zero_add]
      have app : eqCt (X i) (X (i - 1)) = false → Y (quS n X (.own 0 0 1 (R.length + 1 + 1)) (some (.row 3 1 (R.length + 1 + 1) (rowPut (R.length + 1) [.int .i64 1] (niG V)))) ((i + 1 : Nat) : Int)) := fun e => by
        have hnlt : ¬ i - p < rnN X n p := fun h => by rw [hpn.2 h] at e; cases e
        have hle := hI.le
        have hi : p + rnN X n p = i := by omega
        have hq := hI.eq
        rw [runsS_step (X := X) (n := n) (p := p) (by omega), hi] at hq
        rw [rowPut_niG]
        have hp1 := rnN_pos (X := X) c
        refine hY (i + 1, _, _) ⟨c, .inr ⟨updI (R.length + 1) 1 V, R ++ [(rnN X n p : Int)], i, by rw [List.length_append]; rfl, by rw [List.length_append]; rfl, ⟨by show i < i + 1; omega, fun j ha hb => by have hb : j < i + 1 := hb; rw [show j = i by omega], by show i + 1 - i ≤ _; omega, by rw [List.append_assoc]; exact hq, fun j hj => ?_, by rw [List.length_append, List.length_singleton, updI_t]; show (1 : Int) = ((i + 1 - i : Nat) : Int); omega⟩⟩⟩ (by show n - (i + 1) < n - i; omega)
        rw [List.length_append, List.length_singleton] at hj
        rw [updI_f (by omega)]
        by_cases hjl : j < R.length
        · rw [List.getElem_append_left hjl]; exact hI.old j hjl
        · have : j = R.length := by omega
          subst this
          rw [hI.last, List.getElem_append_right (Nat.le_refl _)]
          simp; omega
      refine Br.of (fun _ => Br.of (fun _ => Br.of (fun _ => Br.of (fun e => ?_) fun e => ?_) fun f => absurd f (by simp; omega)) fun f => absurd f (by simp; omega)) fun f => absurd (of_decide_eq_false f) (by omega)
      · refine Br.of (fun _ => Br.of (fun _ => Br.of (fun _ => Br.of (fun _ => ?_) fun f => absurd f (by simp <;> omega)) fun f => absurd f (by simp <;> omega)) fun f => absurd f (by simp <;> omega)) fun f => absurd f (by simp <;> omega)
        have hlt2 := hpn.1 e
        have hX := eqCt_iff.1 (show eqCt (X i) (X (i - 1)) = true from e)
        have h2 : X (i - 1) = X p := hI.same (i - 1) (by omega) (by omega)
        rw [rowPut_niG, hI.last, show IntKind.i64.wrap (((i - p : Nat) : Int) + 1) = ((i + 1 - p : Nat) : Int) by rw [wi64]; omega]
        refine hY (i + 1, _, _) ⟨c, .inr ⟨updI R.length ((i + 1 - p : Nat) : Int) V, R, p, rfl, rfl, ⟨by show p < i + 1; omega, fun j ha hb => ?_, by show i + 1 - p ≤ _; omega, hI.eq, fun j hj => by rw [updI_f (by omega)]; exact hI.old j hj, updI_t⟩⟩⟩ (by show n - (i + 1) < n - i; omega)
        have hb : j < i + 1 := hb
        by_cases hj : j < i
        · exact hI.same j ha hj
        · rw [show j = i by omega, hX, h2]
      · exact Br.of (fun _ => app e) fun f => absurd f (by simp; omega)
    · have c : i = n := by have := of_decide_eq_false c; omega
      subst c
      show afterE quE (keepQ quR [3] 0) quF quP 0 K (.exit 0) (quS i X (.own 0 0 1 (R.length + 1)) (some (.row 3 1 (R.length + 1) (niG V))) i)
      rw [qu_after1]
      have hle := hI.le
      have hle2 := rnN_le (X := X) (n := i) (p := p)
      have hq := hI.eq
      rw [runsS_step (X := X) (n := i) (p := p) hlt, show p + rnN X i p = i by omega, runsS_end (Nat.le_refl i)] at hq
      have hlen : (runsS X i 0).length = R.length + 1 := by rw [← hq, List.length_append]; rfl
      have key := hK.2 (niG V) (fun e => by rw [e] at hlen; cases hlen) fun j hj => ?_
      · rw [hlen] at key; exact key
      · simp only [← hq]
        show niC (V j) = _
        congr 1
        rw [hlen] at hj
        by_cases hjl : j < R.length
        · rw [List.getElem_append_left hjl]; exact hI.old j hjl
        · have : j = R.length := by omega
          subst this
          rw [hI.last, List.getElem_append_right (Nat.le_refl _)]
          simp; omega
end Go.Proofs.YtjlmofhokbnloaaDoor

namespace Go.Proofs.YtjlmofhokbnloaaDoor
open Go.Se
set_option maxRecDepth 100000
theorem rruns_ok (n : Nat) (X : Nat → Ct) (hn : n ≤ 16777216) : CallOK Tryd.prog 17 [.ro n 7 (ctG X)] [] (.ro (runsS X n 0).length 1 (listG niC 0 (runsS X n 0))) [] [] := by
  refine callOK_rows (e := 3) (f := niC) (d0 := 0) (L := runsS X n 0) (fun _ => rfl) ?_
  intro K hK
  exact calls_sat (env := tab.env c14 (fun _ => 0) (fun _ => false)) ⟨tab.htt, c14.ok⟩ tab.mixed (fun n => keepQ_weaker n quR [3]) tab.hft 2 _ _ _ K (qu_law n X hn K hK)
theorem rrus_sat (xs : List SV) (σ : List (Option SB)) : Sat Tryd.prog 17 xs σ (cRus xs σ) := by
  intro K hK
  unfold cRus at hK
  split at hK
  case h_2 => exact hK.elim
  obtain ⟨X, ⟨rfl, h1⟩, hK⟩ := hK
  exact ⟨_, _, _, hK, rruns_ok _ X h1⟩
noncomputable def c15 : Know Tryd.prog := (c14).add 17 cRus rrus_sat
def srR : List (Nat × Keep) := [(0, ⟨[0, 2, 3, 4, 5], [], [], 0, []⟩), (2, ⟨[0, 2, 3, 4, 5, 6], [], [], 0, []⟩)]
noncomputable abbrev srE : Env := envL srR (fun _ => 0) c15 1
noncomputable abbrev srF : Func := Tryd.f7
abbrev srP : List Nat := [1, 1, 1, 1, 0, 1, 0]
abbrev srI : List Nat := [1, 0, 0, 1, 0, 1, 0]
def srS (n : Nat) (X : Nat → Ct) (L : List Int) (a i : Int) : St := ⟨[(0, .ro n 7 (ctG X)), (2, .bool false), (3, .int .i64 a), (4, .ro L.length 1 (listG niC 0 L)), (5, .int .i64 i)], [], 0, [], 82⟩
def srT (n : Nat) (X : Nat → Ct) (L : List Int) (a i k : Int) : St := ⟨[(0, .ro n 7 (ctG X)), (2, .bool false), (3, .int .i64 a), (4, .ro L.length 1 (listG niC 0 L)), (5, .int .i64 i), (6, .int .i64 k)], [], 0, [], 82⟩
theorem sr_entry (n : Nat) (X : Nat → Ct) (K : KC) : runL srR (fun _ => 0) c15 2 7 [.ro n 7 (ctG X)] [] K =
  (Br (decide ((↑n : Int) > 500)) (K (SV.bool true) [] []) (∃ (e399 : Nat → Ct), (ctG X = ctG e399 ∧ n ≤ 16777216) ∧ (∃ q_, loopE srE (keepW srR 0) srF srP 0 0 K q_ { tmps := [(0, SV.ro n 7 (ctG X)), (2, SV.bool false), (3, SV.int .i64 0), (4, SV.ro (runsS e399 n 0).length 1 (listG niC 0 (runsS e399 n 0))), (5, SV.int .i64 0)], store := [], nxt := 0, dirty := [], nt := 82 }))) := by kernel_rfl
theorem sr_round (n : Nat) (X : Nat → Ct) (L : List Int) (a i : Nat) (K : Ex → St → Prop) : roundE srE (keepW srR 0) srF srP 0 K (srS n X L a i) =
  (Br (decide ((↑i : Int) < (↑L.length : Int))) (Br (decide (0 ≤ (↑i : Int)) && decide ((↑i : Int) < (↑L.length : Int))) (Br (decide (L.getD (↑i : Int).toNat 0 < 1)) (K Ex.ret { tmps := [(0, SV.ro n 7 (ctG X)), (2, SV.bool false), (3, SV.int .i64 (↑a : Int)), (4, SV.ro L.length 1 (listG niC 0 L)), (5, SV.int .i64 (↑i : Int))], store := [], nxt := 0, dirty := [], nt := 82 }) (Br (decide (0 ≤ (↑i : Int)) && decide ((↑i : Int) < (↑L.length : Int))) (Br (decide (L.getD (↑i : Int).toNat 0 > IntKind.i64.wrap ((↑n : Int) - (↑a : Int)))) (K Ex.ret { tmps := [(0, SV.ro n 7 (ctG X)), (2, SV.bool false), (3, SV.int .i64 (↑a : Int)), (4, SV.ro L.length 1 (listG niC 0 L)), (5, SV.int .i64 (↑i : Int))], store := [], nxt := 0, dirty := [], nt := 82 }) (Br (decide ((↑a : Int) > 0)) (Br (decide (0 ≤ (↑a : Int)) && decide ((↑a : Int) < (↑n : Int))) (Br (decide (0 ≤ IntKind.i64.wrap ((↑a : Int) - 1)) && decide (IntKind.i64.wrap ((↑a : Int) - 1) < (↑n : Int))) (Br ((X (↑a : Int).toNat).t == (X (IntKind.i64.wrap ((↑a : Int) - 1)).toNat).t && ((X (↑a : Int).toNat).b == (X (IntKind.i64.wrap ((↑a : Int) - 1)).toNat).b && ((X (↑a : Int).toNat).c == (X (IntKind.i64.wrap ((↑a : Int) - 1)).toNat).c && ((X (↑a : Int).toNat).s == (X (IntKind.i64.wrap ((↑a : Int) - 1)).toNat).s && ((X (↑a : Int).toNat).g == (X (IntKind.i64.wrap ((↑a : Int) - 1)).toNat).g && ((X (↑a : Int).toNat).a == (X (IntKind.i64.wrap ((↑a : Int) - 1)).toNat).a && (X (↑a : Int).toNat).r == (X (IntKind.i64.wrap ((↑a : Int) - 1)).toNat).r)))))) (K Ex.ret { tmps := [(0, SV.ro n 7 (ctG X)), (2, SV.bool false), (3, SV.int .i64 (↑a : Int)), (4, SV.ro L.length 1 (listG niC 0 L)), (5, SV.int .i64 (↑i : Int))], store := [], nxt := 0, dirty := [], nt := 82 }) (∃ q_, iter (roundE srE (keepW srR 0) srF (srP ++ [0] ++ srI) 2) (nestK srE (keepW srR 0) srF srP 0 srI K) q_ { tmps := [(0, SV.ro n 7 (ctG X)), (2, SV.bool false), (3, SV.int .i64 (↑a : Int)), (4, SV.ro L.length 1 (listG niC 0 L)), (5, SV.int .i64 (↑i : Int)), (6, SV.int .i64 1)], store := [], nxt := 0, dirty := [], nt := 82 })) (False)) (False)) (∃ q_, iter (roundE srE (keepW srR 0) srF (srP ++ [0] ++ srI) 2) (nestK srE (keepW srR 0) srF srP 0 srI K) q_ { tmps := [(0, SV.ro n 7 (ctG X)), (2, SV.bool false), (3, SV.int .i64 (↑a : Int)), (4, SV.ro L.length 1 (listG niC 0 L)), (5, SV.int .i64 (↑i : Int)), (6, SV.int .i64 1)], store := [], nxt := 0, dirty := [], nt := 82 }))) (False))) (False)) (K (Ex.exit 0) { tmps := [(0, SV.ro n 7 (ctG X)), (2, SV.bool false), (3, SV.int .i64 (↑a : Int)), (4, SV.ro L.length 1 (listG niC 0 L)), (5, SV.int .i64 (↑i : Int))], store := [], nxt := 0, dirty := [], nt := 82 })) := by kernel_rfl
theorem sr_in (n : Nat) (X : Nat → Ct) (L : List Int) (a i k : Nat) (K : Ex → St → Prop) : roundE srE (keepW srR 0) srF (srP ++ [0] ++ srI) 2 K (srT n X L a i k) =
  (Br (decide (0 ≤ (↑i : Int)) && decide ((↑i : Int) < (↑L.length : Int))) (Br (decide ((↑k : Int) < L.getD (↑i : Int).toNat 0)) (Br (decide (0 ≤ IntKind.i64.wrap ((↑a : Int) + (↑k : Int))) && decide (IntKind.i64.wrap ((↑a : Int) + (↑k : Int)) < (↑n : Int))) (Br (decide (0 ≤ (↑a : Int)) && decide ((↑a : Int) < (↑n : Int))) (Br (!((X (IntKind.i64.wrap ((↑a : Int) + (↑k : Int))).toNat).t == (X (↑a : Int).toNat).t && ((X (IntKind.i64.wrap ((↑a : Int) + (↑k : Int))).toNat).b == (X (↑a : Int).toNat).b && ((X (IntKind.i64.wrap ((↑a : Int) + (↑k : Int))).toNat).c == (X (↑a : Int).toNat).c && ((X (IntKind.i64.wrap ((↑a : Int) + (↑k : Int))).toNat).s == (X (↑a : Int).toNat).s && ((X (IntKind.i64.wrap ((↑a : Int) + (↑k : Int))).toNat).g == (X (↑a : Int).toNat).g && ((X (IntKind.i64.wrap ((↑a : Int) + (↑k : Int))).toNat).a == (X (↑a : Int).toNat).a && (X (IntKind.i64.wrap ((↑a : Int) + (↑k : Int))).toNat).r == (X (↑a : Int).toNat).r))))))) (K Ex.ret { tmps := [(0, SV.ro n 7 (ctG X)), (2, SV.bool false), (3, SV.int .i64 (↑a : Int)), (4, SV.ro L.length 1 (listG niC 0 L)), (5, SV.int .i64 (↑i : Int)), (6, SV.int .i64 (↑k : Int))], store := [], nxt := 0, dirty := [], nt := 82 }) (K Ex.normal { tmps := [(0, SV.ro n 7 (ctG X)), (2, SV.bool false), (3, SV.int .i64 (↑a : Int)), (4, SV.ro L.length 1 (listG niC 0 L)), (5, SV.int .i64 (↑i : Int)), (6, SV.int .i64 (IntKind.i64.wrap ((↑k : Int) + 1)))], store := [], nxt := 0, dirty := [], nt := 82 })) (False)) (False)) (K (Ex.exit 2) { tmps := [(0, SV.ro n 7 (ctG X)), (2, SV.bool false), (3, SV.int .i64 (↑a : Int)), (4, SV.ro L.length 1 (listG niC 0 L)), (5, SV.int .i64 (↑i : Int)), (6, SV.int .i64 (↑k : Int))], store := [], nxt := 0, dirty := [], nt := 82 })) (False)) := by kernel_rfl
theorem sr_nest (n : Nat) (X : Nat → Ct) (L : List Int) (a i k : Nat) (K : Ex → St → Prop) : nestK srE (keepW srR 0) srF srP 0 srI K (.exit 2) (srT n X L a i k) =
  (Br (decide (0 ≤ (↑i : Int)) && decide ((↑i : Int) < (↑L.length : Int))) (K Ex.normal { tmps := [(0, SV.ro n 7 (ctG X)), (2, SV.bool false), (3, SV.int .i64 (IntKind.i64.wrap ((↑a : Int) + L.getD (↑i : Int).toNat 0))), (4, SV.ro L.length 1 (listG niC 0 L)), (5, SV.int .i64 (IntKind.i64.wrap ((↑i : Int) + 1)))], store := [], nxt := 0, dirty := [], nt := 82 }) (False)) := by kernel_rfl
theorem sr_after (n : Nat) (X : Nat → Ct) (L : List Int) (a i : Nat) (K : KC) : afterE srE (keepW srR 0) srF srP 0 K (.exit 0) (srS n X L a i) =
  (Br ((↑a : Int) == (↑n : Int)) (K (SV.bool true) [] []) (K (SV.bool false) [] [])) := by kernel_rfl
theorem sr_inner (n : Nat) (X : Nat → Ct) (L : List Int) (a i r : Nat) (hn : n ≤ 16777216) (hl : L.length ≤ n) (hi : i < L.length) (hr : L.getD i 0 = (r : Int)) (hr1 : 1 ≤ r) (ha : a + r ≤ n) (same : ∀ k, k < r → X (a + k) = X a) (K : Ex → St → Prop)
    (hK : K .normal (srS n X L (a + r : Nat) (i + 1 : Nat))) : ∃ q, iter (roundE srE (keepW srR 0) srF (srP ++ [0] ++ srI) 2) (nestK srE (keepW srR 0) srF srP 0 srI K) q (srT n X L a i 1) := by
  refine ⟨r + 1, loop_m (fun k : Nat => srT n X L a i k) (fun k => r - k) (fun k => 1 ≤ k ∧ k ≤ r) ?_ (r + 1) 1 ⟨Nat.le_refl _, hr1⟩ (by show r - 1 < _; omega)⟩
  rintro k ⟨h1, h2⟩ Y hY
  rw [sr_in, Int.toNat_natCast, hr]
  have hb : (decide (0 ≤ (i : Int)) && decide ((i : Int) < (L.length : Int))) = true := by simp; omega
  refine Br.of (fun _ => Br.of (fun c => ?_) fun c => ?_) fun f => absurd (hb.symm.trans f) (by decide)
  · have c : k < r := by have := of_decide_eq_true c; omega
    rw [show IntKind.i64.wrap ((a : Int) + (k : Int)) = ((a + k : Nat) : Int) by rw [wi64]; omega, show IntKind.i64.wrap ((k : Int) + 1) = ((k + 1 : Nat) : Int) by rw [wi64]; omega]
    simp only [Int.toNat_natCast]
    refine Br.of (fun _ => Br.of (fun _ => Br.of (fun e => ?_) fun _ => ?_) fun f => absurd f (by simp; omega)) fun f => absurd f (by simp; omega)
    · have e : (!eqCt (X (a + k)) (X a)) = true := e
      rw [same k c, eqCt_self] at e
      cases e
    · exact hY (k + 1) ⟨by omega, c⟩ (by show r - (k + 1) < r - k; omega)
  · have c : k = r := by have := of_decide_eq_false c; omega
    subst c
    show nestK srE (keepW srR 0) srF srP 0 srI K (.exit 2) (srT n X L a i k)
    rw [sr_nest, Int.toNat_natCast, hr, show IntKind.i64.wrap ((a : Int) + (k : Int)) = ((a + k : Nat) : Int) by rw [wi64]; omega, show IntKind.i64.wrap ((i : Int) + 1) = ((i + 1 : Nat) : Int) by rw [wi64]; omega]
    exact Br.of (fun _ => hK) fun f => absurd (hb.symm.trans f) (by decide)
theorem sr_law (n : Nat) (X : Nat → Ct) (hn : n ≤ 500) (K : KC) (hK : K (.bool true) [] []) : ∃ q, loopE srE (keepW srR 0) srF srP 0 0 K q (srS n X (runsS X n 0) 0 0) := by
  have hl := runsS_len (X := X) (n := n)
  generalize hL : runsS X n 0 = L at *
  refine ⟨L.length + 1, loop_m (fun b : Nat × Nat => srS n X L b.1 b.2) (fun b => L.length - b.2) (fun b => b.1 ≤ n ∧ b.2 ≤ L.length ∧ L.drop b.2 = runsS X n b.1 ∧ (b.1 = 0 ∨ n ≤ b.1 ∨ X b.1 ≠ X (b.1 - 1))) ?_ (L.length + 1) (0, 0) ⟨Nat.zero_le _, Nat.zero_le _, hL.symm, .inl rfl⟩ (by show L.length - 0 < _; omega)⟩
  rintro ⟨a, i⟩ ⟨h1, h2, h3, h4⟩ Y hY
  simp only at h1 h2 h3 h4 hY ⊢
  rw [sr_round]
  refine Br.of (fun c => ?_) fun c => ?_
  · have c : i < L.length := by have := of_decide_eq_true c; omega
    have ha : a < n := Nat.not_le.1 fun h => by
      rw [runsS_end h] at h3
      have := congrArg List.length h3
      rw [List.length_drop] at this
      have : L.length - i = 0 := this
      omega
    rw [runsS_step ha] at h3
    obtain ⟨_, g1, g2⟩ := drop_cons_iff h3
    have r1 := rnN_pos (X := X) ha
    have r2 := rnN_le (X := X) (n := n) (p := a)
    rw [Int.toNat_natCast, g1 0]
    have hb : (decide (0 ≤ (i : Int)) && decide ((i : Int) < (L.length : Int))) = true := by simp; omega
    have next : ∃ q, iter (roundE srE (keepW srR 0) srF (srP ++ [0] ++ srI) 2) (nestK srE (keepW srR 0) srF srP 0 srI (nextK Y (fun e s => afterE srE (keepW srR 0) srF srP 0 K e s))) q (srT n X L a i 1) := by
      refine sr_inner n X L a i (rnN X n a) (by omega) hl c (g1 0) r1 (by omega) (fun k hk => rnN_same hk) _ ?_
      refine hY (a + rnN X n a, i + 1) ⟨by show a + rnN X n a ≤ n; omega, c, g2, ?_⟩ (by show L.length - (i + 1) < L.length - i; omega)
      by_cases he : a + rnN X n a < n
      · right; right
        show X (a + rnN X n a) ≠ X (a + rnN X n a - 1)
        have e2 := rnN_same (X := X) (n := n) (p := a) (i := rnN X n a - 1) (by omega)
        rw [show a + (rnN X n a - 1) = a + rnN X n a - 1 by omega] at e2
        rw [e2]
        exact fun e => rnN_next he e.symm
      · right; left
        show n ≤ a + rnN X n a
        omega
    rw [show IntKind.i64.wrap ((n : Int) - (a : Int)) = ((n - a : Nat) : Int) by rw [wi64]; omega]
    refine Br.of (fun _ => Br.of (fun f => absurd (of_decide_eq_true f) (by omega)) fun _ => Br.of (fun _ => Br.of (fun f => absurd (of_decide_eq_true f) (by omega)) fun _ => Br.of (fun d => ?_) fun _ => next) fun f => absurd (hb.symm.trans f) (by decide)) fun f => absurd (hb.symm.trans f) (by decide)
    have d : 0 < a := by have := of_decide_eq_true d; omega
    rw [show IntKind.i64.wrap ((a : Int) - 1) = ((a - 1 : Nat) : Int) by rw [wi64]; omega]
    simp only [Int.toNat_natCast]
    refine Br.of (fun _ => Br.of (fun _ => Br.of (fun e => ?_) fun _ => next) fun f => absurd f (by simp; omega)) fun f => absurd f (by simp; omega)
    have e := eqCt_iff.1 (show eqCt (X a) (X (a - 1)) = true from e)
    rcases h4 with h | h | h
    · omega
    · omega
    · exact absurd e h
  · have c : i = L.length := by have := of_decide_eq_false c; omega
    subst c
    rw [List.drop_length] at h3
    have ha : a = n := by
      refine Nat.le_antisymm h1 (Nat.not_lt.1 fun h => ?_)
      rw [runsS_step h] at h3
      cases h3
    subst ha
    show afterE srE (keepW srR 0) srF srP 0 K (.exit 0) (srS a X L a L.length)
    rw [sr_after]
    exact Br.of (fun _ => hK) fun f => absurd f (by simp)
theorem sruns_ok (n : Nat) (X : Nat → Ct) : CallOK Tryd.prog 7 [.ro n 7 (ctG X)] [] (.bool true) [] [] :=
  runL_ok srR (fun _ => 0) c15 2 (fun _ h => nomatch h) fun _ _ K hK => by
    have hK := hK [] fun _ h => nomatch h
    rw [sr_entry]
    refine Br.of (fun _ => hK) fun c => ?_
    have c : n ≤ 500 := by have := of_decide_eq_false c; omega
    exact ⟨X, ⟨rfl, by omega⟩, sr_law n X c K hK⟩
end Go.Proofs.YtjlmofhokbnloaaDoor

