import Derived.Test.YthnikhkcnapcaaaDoorTk
namespace Go.Proofs.YthnikhkcnapcaaaDoor
open Go.Se
set_option maxRecDepth 100000
def rwR : List (Nat × Keep) := [(0, ⟨[1, 2, 3, 4], [0], [1, 2, 3, 4], 1, []⟩), (2, ⟨[1, 2, 3, 6], [0], [1, 2, 3, 4], 1, []⟩)]
def rwS (t : Trk) (c a i : Int) : St := ⟨[(1, .ptr 0 0), (2, .int .i64 c), (3, .int .i64 a), (4, .int .i64 i)], [(0, some (.cells 34 (trkC t)))], 1, [1, 2, 3, 4], 56⟩
def rwT (t : Trk) (c a i : Int) : St := ⟨[(1, .ptr 0 0), (2, .int .i64 c), (3, .int .i64 a), (6, .int .i64 i)], [(0, some (.cells 34 (trkC t)))], 1, [1, 2, 3, 4], 56⟩
noncomputable abbrev rwE : Env := envL rwR (fun _ => 0) s4 1
def rbR : List (Nat × Keep) := [(0, ⟨[1, 3, 4], [0, 1], [1, 2, 3, 4, 5], 2, [(3, 1)]⟩), (2, ⟨[1, 3, 4, 5], [0, 1], [1, 2, 3, 4, 5], 2, [(3, 1)]⟩)]
def rbS (t : Trk) (o : SV) (b : Option SB) (i : Int) : St := ⟨[(1, .ptr 0 0), (3, o), (4, .int .i64 i)], [(0, some (.cells 34 (trkC t))), (1, b)], 2, [1, 2, 3, 4, 5], 46⟩
def rbT (t : Trk) (o : SV) (b : Option SB) (i k : Int) : St := ⟨[(1, .ptr 0 0), (3, o), (4, .int .i64 i), (5, .int .i64 k)], [(0, some (.cells 34 (trkC t))), (1, b)], 2, [1, 2, 3, 4, 5], 46⟩
noncomputable abbrev rbE : Env := envL rbR (fun _ => 0) s4 1
noncomputable abbrev rbF : Func := Tryd.f8
abbrev rbP : List Nat := [1, 1, 0, 1, 0]
abbrev rbI : List Nat := [1, 0, 0, 1, 0]
theorem rb_entry (t : Trk) (K : KC) : runL rbR (fun _ => 0) s4 2 8 [.agg (trkC t)] [] K =
  (∃ q_, loopE rbE (keepW rbR 0) rbF rbP 0 0 K q_ { tmps := [(1, SV.ptr 0 0), (3, SV.nils), (4, SV.int IntKind.i64 0)], store := [(0, some (SB.cells 34 (trkC t))), (1, none)], nxt := 2, dirty := [1, 2, 3, 4, 5], nt := 46 }) := by kernel_rfl
theorem rb_round0 (t : Trk) (i : Nat) (K : Ex → St → Prop) : roundE rbE (keepW rbR 0) rbF rbP 0 K (rbS t .nils none i) =
  (Br (decide ((↑i : Int) < (↑t.nr : Int))) (∃ q_, iter (roundE rbE (keepW rbR 0) rbF (rbP ++ [0] ++ rbI) 2) (nestK rbE (keepW rbR 0) rbF rbP 0 rbI K) q_ { tmps := [(1, SV.ptr 0 0), (3, SV.nils), (4, SV.int IntKind.i64 (↑i : Int)), (5, SV.int IntKind.i64 1)], store := [(0, some (SB.cells 34 (trkC t))), (1, none)], nxt := 2, dirty := [1, 2, 3, 4, 5], nt := 46 }) (K (Ex.exit 0) { tmps := [(1, SV.ptr 0 0), (3, SV.nils), (4, SV.int IntKind.i64 (↑i : Int))], store := [(0, some (SB.cells 34 (trkC t))), (1, none)], nxt := 2, dirty := [1, 2, 3, 4, 5], nt := 46 })) := by kernel_rfl
theorem rb_round1 (t : Trk) (m : Nat) (g : Nat → List SV) (i : Nat) (K : Ex → St → Prop) : roundE rbE (keepW rbR 0) rbF rbP 0 K (rbS t (.own 1 0 5 m) (some (.row 39 5 m g)) i) =
  (Br (decide ((↑i : Int) < (↑t.nr : Int))) (∃ q_, iter (roundE rbE (keepW rbR 0) rbF (rbP ++ [0] ++ rbI) 2) (nestK rbE (keepW rbR 0) rbF rbP 0 rbI K) q_ { tmps := [(1, SV.ptr 0 0), (3, SV.own 1 0 5 m), (4, SV.int IntKind.i64 (↑i : Int)), (5, SV.int IntKind.i64 1)], store := [(0, some (SB.cells 34 (trkC t))), (1, some (SB.row 39 5 m g))], nxt := 2, dirty := [1, 2, 3, 4, 5], nt := 46 }) (K (Ex.exit 0) { tmps := [(1, SV.ptr 0 0), (3, SV.own 1 0 5 m), (4, SV.int IntKind.i64 (↑i : Int))], store := [(0, some (SB.cells 34 (trkC t))), (1, some (SB.row 39 5 m g))], nxt := 2, dirty := [1, 2, 3, 4, 5], nt := 46 })) := by kernel_rfl
theorem rb_in0 (t : Trk) (i k : Nat) (K : Ex → St → Prop) : roundE rbE (keepW rbR 0) rbF (rbP ++ [0] ++ rbI) 2 K (rbT t .nils none i k) =
  (Br (decide (0 ≤ (↑i : Int)) && decide ((↑i : Int) < (↑t.nr : Int))) (Br (decide ((↑k : Int) < (↑(t.rn (↑i : Int).toNat) : Int))) (Br (decide (0 ≤ (↑i : Int)) && decide ((↑i : Int) < (↑t.nr : Int))) (Br (decide (0 ≤ IntKind.i64.wrap ((↑k : Int) - 1)) && decide (IntKind.i64.wrap ((↑k : Int) - 1) < (↑(t.rn (↑i : Int).toNat) : Int))) (Br (decide (0 ≤ (↑i : Int)) && decide ((↑i : Int) < (↑t.nr : Int))) (Br (decide (0 ≤ (↑k : Int)) && decide ((↑k : Int) < (↑(t.rn (↑i : Int).toNat) : Int))) (K Ex.normal { tmps := [(1, SV.ptr 0 0), (3, SV.own 1 0 5 1), (4, SV.int IntKind.i64 (↑i : Int)), (5, SV.int IntKind.i64 (IntKind.i64.wrap ((↑k : Int) + 1)))], store := [(0, some (SB.cells 34 (trkC t))), (1, some (SB.row 39 5 1 fun (i_1 : Nat) => cut [SV.int IntKind.i64 (t.rx (↑i : Int).toNat (IntKind.i64.wrap ((↑k : Int) - 1)).toNat), SV.int IntKind.i64 (t.ry (↑i : Int).toNat (IntKind.i64.wrap ((↑k : Int) - 1)).toNat), SV.int IntKind.i64 (t.rx (↑i : Int).toNat (↑k : Int).toNat), SV.int IntKind.i64 (t.ry (↑i : Int).toNat (↑k : Int).toNat), SV.int IntKind.i64 (↑i : Int)] (i_1 * 5) 5))], nxt := 2, dirty := [1, 2, 3, 4, 5], nt := 46 }) (False)) (False)) (False)) (False)) (K (Ex.exit 2) { tmps := [(1, SV.ptr 0 0), (3, SV.nils), (4, SV.int IntKind.i64 (↑i : Int)), (5, SV.int IntKind.i64 (↑k : Int))], store := [(0, some (SB.cells 34 (trkC t))), (1, none)], nxt := 2, dirty := [1, 2, 3, 4, 5], nt := 46 })) (False)) := by kernel_rfl
theorem rb_in1 (t : Trk) (m : Nat) (g : Nat → List SV) (i k : Nat) (K : Ex → St → Prop) : roundE rbE (keepW rbR 0) rbF (rbP ++ [0] ++ rbI) 2 K (rbT t (.own 1 0 5 m) (some (.row 39 5 m g)) i k) =
  (Br (decide (0 ≤ (↑i : Int)) && decide ((↑i : Int) < (↑t.nr : Int))) (Br (decide ((↑k : Int) < (↑(t.rn (↑i : Int).toNat) : Int))) (Br (decide (0 ≤ (↑i : Int)) && decide ((↑i : Int) < (↑t.nr : Int))) (Br (decide (0 ≤ IntKind.i64.wrap ((↑k : Int) - 1)) && decide (IntKind.i64.wrap ((↑k : Int) - 1) < (↑(t.rn (↑i : Int).toNat) : Int))) (Br (decide (0 ≤ (↑i : Int)) && decide ((↑i : Int) < (↑t.nr : Int))) (Br (decide (0 ≤ (↑k : Int)) && decide ((↑k : Int) < (↑(t.rn (↑i : Int).toNat) : Int))) (Br (decide ((m + 1) * 40 ≤ 1099511627776) && decide (m + 1 < 9223372036854775808) && decide (m = m)) (K Ex.normal { tmps := [(1, SV.ptr 0 0), (3, SV.own 1 0 5 (m + 1)), (4, SV.int IntKind.i64 (↑i : Int)), (5, SV.int IntKind.i64 (IntKind.i64.wrap ((↑k : Int) + 1)))], store := [(0, some (SB.cells 34 (trkC t))), (1, some (SB.row 39 5 (m + 1) (rowPut m [SV.int IntKind.i64 (t.rx (↑i : Int).toNat (IntKind.i64.wrap ((↑k : Int) - 1)).toNat), SV.int IntKind.i64 (t.ry (↑i : Int).toNat (IntKind.i64.wrap ((↑k : Int) - 1)).toNat), SV.int IntKind.i64 (t.rx (↑i : Int).toNat (↑k : Int).toNat), SV.int IntKind.i64 (t.ry (↑i : Int).toNat (↑k : Int).toNat), SV.int IntKind.i64 (↑i : Int)] g)))], nxt := 2, dirty := [1, 2, 3, 4, 5], nt := 46 }) (False)) (False)) (False)) (False)) (False)) (K (Ex.exit 2) { tmps := [(1, SV.ptr 0 0), (3, SV.own 1 0 5 m), (4, SV.int IntKind.i64 (↑i : Int)), (5, SV.int IntKind.i64 (↑k : Int))], store := [(0, some (SB.cells 34 (trkC t))), (1, some (SB.row 39 5 m g))], nxt := 2, dirty := [1, 2, 3, 4, 5], nt := 46 })) (False)) := by kernel_rfl
theorem rb_nest0 (t : Trk) (i k : Nat) (K : Ex → St → Prop) : nestK rbE (keepW rbR 0) rbF rbP 0 rbI K (.exit 2) (rbT t .nils none i k) =
  (K Ex.normal { tmps := [(1, SV.ptr 0 0), (3, SV.nils), (4, SV.int IntKind.i64 (IntKind.i64.wrap ((↑i : Int) + 1)))], store := [(0, some (SB.cells 34 (trkC t))), (1, none)], nxt := 2, dirty := [1, 2, 3, 4, 5], nt := 46 }) := by kernel_rfl
theorem rb_nest1 (t : Trk) (m : Nat) (g : Nat → List SV) (i k : Nat) (K : Ex → St → Prop) : nestK rbE (keepW rbR 0) rbF rbP 0 rbI K (.exit 2) (rbT t (.own 1 0 5 m) (some (.row 39 5 m g)) i k) =
  (K Ex.normal { tmps := [(1, SV.ptr 0 0), (3, SV.own 1 0 5 m), (4, SV.int IntKind.i64 (IntKind.i64.wrap ((↑i : Int) + 1)))], store := [(0, some (SB.cells 34 (trkC t))), (1, some (SB.row 39 5 m g))], nxt := 2, dirty := [1, 2, 3, 4, 5], nt := 46 }) := by kernel_rfl
theorem rb_after0 (t : Trk) (i : Nat) (K : KC) : afterE rbE (keepW rbR 0) rbF rbP 0 K (.exit 0) (rbS t .nils none i) =
  (K SV.nils [] []) := by kernel_rfl
theorem rb_after1 (t : Trk) (m : Nat) (g : Nat → List SV) (i : Nat) (K : KC) : afterE rbE (keepW rbR 0) rbF rbP 0 K (.exit 0) (rbS t (.own 1 0 5 m) (some (.row 39 5 m g)) i) =
  (K (SV.own 0 0 5 m) [some (SB.row 39 5 m g)] []) := by kernel_rfl
def tupK (c : Int × Int) (K : KC) : Prop := K (.tup [.int .i64 c.1, .int .i64 c.2]) [] []
def waysV (t : Trk) : Int × Int := orV (railsV t) (gatesV t)
theorem fst_found {c : Nat → Int} {n i : Nat} (hi : i < n) (h : c i ≠ 0) (hl : ∀ j, j < i → c j = 0) : fstW c n 0 = (c i, (i : Int)) := by
  have : ∀ k, k ≤ i → fstW c (n - k) k = fstW c n 0 := by
    intro k
    induction k with
    | zero => intro _; rw [Nat.sub_zero]
    | succ k ih => intro hk; rw [← ih (by omega)]; exact (fst_miss (by omega) (hl k (by omega))).symm
  rw [← this i (Nat.le_refl _), fst_hit hi rfl (bne_iff_ne.2 h)]
theorem fst_none {c : Nat → Int} {n : Nat} (hl : ∀ j, j < n → c j = 0) : fstW c n 0 = (0, 0) := by
  have : ∀ k, k ≤ n → fstW c (n - k) k = fstW c n 0 := by
    intro k
    induction k with
    | zero => intro _; rw [Nat.sub_zero]
    | succ k ih => intro hk; rw [← ih (by omega)]; exact (fst_miss (by omega) (hl k (by omega))).symm
  rw [← this n (Nat.le_refl _), Nat.sub_self]; rfl
theorem rb_inner (t : Trk) (i n : Nat) (L0 : List Bar) (hi : i < t.nr) (hi2 : t.nr ≤ 20) (hr : t.rn i ≤ 100) (hn : n = t.rn i - 1) (hL : L0.length ≤ 2000) (K : Ex → St → Prop)
    (hK : ∀ o b, tellsL barT 5 1 bsv (L0 ++ barsN t i n) o b → K .normal (rbS t o b (i + 1 : Nat))) :
    ∀ (f : Nat) (a : Nat × SV × Option SB), (a.1 ≤ n ∧ tellsL barT 5 1 bsv (L0 ++ barsN t i a.1) a.2.1 a.2.2) → n - a.1 < f →
      iter (roundE rbE (keepW rbR 0) rbF (rbP ++ [0] ++ rbI) 2) (nestK rbE (keepW rbR 0) rbF rbP 0 rbI K) f (rbT t a.2.1 a.2.2 i (a.1 + 1 : Nat)) :=
  loop_m (fun a : Nat × SV × Option SB => rbT t a.2.1 a.2.2 i (a.1 + 1 : Nat)) (fun a => n - a.1) (fun a => a.1 ≤ n ∧ tellsL barT 5 1 bsv (L0 ++ barsN t i a.1) a.2.1 a.2.2) (fun a => by
    obtain ⟨k, o, b⟩ := a
    rintro ⟨hk, ht⟩ Z hZ
    simp only at hk ht hZ ⊢
    rcases ht with ⟨hl, rfl, rfl⟩ | ⟨g, hl, rfl, rfl, hg⟩
    · rw [rb_in0, wi64_pred (k := k + 1) (by omega) (by omega)]
      simp only [Int.toNat_natCast, Nat.add_sub_cancel]
      refine Br.of (fun _ => Br.of (fun c => Br.of (fun _ => Br.of (fun _ => Br.of (fun _ => Br.of (fun _ => ?_) fun c1 => ?_) fun c1 => in_f hi c1) fun c1 => ?_) fun c1 => in_f hi c1) fun c => ?_) fun c1 => in_f hi c1
      · have c' := of_decide_eq_true c
        show Z _
        rw [wi64_succ (n := n + 1) (by omega) (by omega)]
        refine hZ (k + 1, _, _) ⟨by show k + 1 ≤ n; omega, ?_⟩ (by show n - (k + 1) < n - k; omega)
        show tellsL barT 5 1 bsv (L0 ++ barsN t i (k + 1)) _ _
        rw [barsN_succ, ← List.append_assoc, hl, List.nil_append]
        exact tells_first (barAt_sv t i k) rfl
      · have c' := of_decide_eq_true c
        exact in_f (by omega) c1
      · have c' := of_decide_eq_true c
        exact in_f (by omega) c1
      · have c' := of_decide_eq_false c
        have hkn : k = n := by omega
        subst hkn
        show nestK rbE (keepW rbR 0) rbF rbP 0 rbI K (.exit 2) (rbT t .nils none i (k + 1 : Nat))
        rw [rb_nest0, wi64_succ (n := 20) (by omega) (by omega)]
        exact hK _ _ (.inl ⟨hl, rfl, rfl⟩)
    · rw [rb_in1, wi64_pred (k := k + 1) (by omega) (by omega)]
      simp only [Int.toNat_natCast, Nat.add_sub_cancel]
      have hlen : (L0 ++ barsN t i k).length ≤ 2100 := by rw [List.length_append, barsN_len]; omega
      refine Br.of (fun _ => Br.of (fun c => Br.of (fun _ => Br.of (fun _ => Br.of (fun _ => Br.of (fun _ => Br.of (fun _ => ?_) fun c1 => ?_) fun c1 => ?_) fun c1 => in_f hi c1) fun c1 => ?_) fun c1 => in_f hi c1) fun c => ?_) fun c1 => in_f hi c1
      · have c' := of_decide_eq_true c
        show Z _
        rw [wi64_succ (n := n + 1) (by omega) (by omega)]
        refine hZ (k + 1, _, _) ⟨by show k + 1 ≤ n; omega, ?_⟩ (by show n - (k + 1) < n - k; omega)
        show tellsL barT 5 1 bsv (L0 ++ barsN t i (k + 1)) _ _
        rw [barsN_succ, ← List.append_assoc]
        exact tells_push (barAt_sv t i k) rfl hg
      · rw [Bool.and_eq_false_iff, Bool.and_eq_false_iff] at c1
        rcases c1 with (c1 | c1) | c1
        · have := of_decide_eq_false c1; omega
        · have := of_decide_eq_false c1; omega
        · simp at c1
      · have c' := of_decide_eq_true c
        exact in_f (by omega) c1
      · have c' := of_decide_eq_true c
        exact in_f (by omega) c1
      · have c' := of_decide_eq_false c
        have hkn : k = n := by omega
        subst hkn
        show nestK rbE (keepW rbR 0) rbF rbP 0 rbI K (.exit 2) (rbT t _ _ i (k + 1 : Nat))
        rw [rb_nest1, wi64_succ (n := 20) (by omega) (by omega)]
        exact hK _ _ (.inr ⟨g, hl, rfl, rfl, hg⟩))
theorem rbars_law (t : Trk) (hs : smallR t) (K : KC) (hK : rowsEnd barT 5 bsv (barL t) K) : runL rbR (fun _ => 0) s4 2 8 [.agg (trkC t)] [] K := by
  rw [rb_entry]
  obtain ⟨hs1, hs2⟩ := hs
  refine ⟨t.nr + 1, loop_m (fun a : Nat × SV × Option SB => rbS t a.2.1 a.2.2 a.1) (fun a => t.nr - a.1) (fun a => a.1 ≤ t.nr ∧ tellsL barT 5 1 bsv (allBars t a.1) a.2.1 a.2.2) (fun a => ?_) (t.nr + 1) (0, .nils, none) ⟨Nat.zero_le _, tells_nil⟩ (by omega)⟩
  obtain ⟨i, o, b⟩ := a
  rintro ⟨hi, ht⟩ Z hZ
  simp only at hi ht hZ ⊢
  have hlen : (allBars t i).length ≤ 2000 := by
    have := allBars_len hs2 i hi
    have : i * 100 ≤ 20 * 100 := Nat.mul_le_mul_right _ (by omega)
    omega
  have hinner : i < t.nr → ∃ q, iter (roundE rbE (keepW rbR 0) rbF (rbP ++ [0] ++ rbI) 2) (nestK rbE (keepW rbR 0) rbF rbP 0 rbI (nextK Z (afterE rbE (keepW rbR 0) rbF rbP 0 K))) q (rbT t o b i (0 + 1 : Nat)) := fun hlt =>
    ⟨(t.rn i - 1) + 1, rb_inner t i (t.rn i - 1) (allBars t i) hlt hs1 (hs2 i hlt) rfl hlen _ (fun o b h => hZ (i + 1, o, b) ⟨hlt, h⟩ (by show t.nr - (i + 1) < t.nr - i; omega)) _ (0, o, b)
      ⟨Nat.zero_le _, by show tellsL barT 5 1 bsv (allBars t i ++ barsN t i 0) o b; rw [show barsN t i 0 = [] from rfl, List.append_nil]; exact ht⟩ (by show t.rn i - 1 - 0 < _; omega)⟩
  have hend : i = t.nr → tellsL barT 5 1 bsv (barL t) o b := fun h => by subst h; exact ht
  rcases ht with ⟨hl, rfl, rfl⟩ | ⟨g, hl, rfl, rfl, hg⟩
  · rw [rb_round0]
    refine Br.of (fun c => hinner (by have := of_decide_eq_true c; omega)) fun c => ?_
    have c' := of_decide_eq_false c
    show afterE rbE (keepW rbR 0) rbF rbP 0 K (.exit 0) (rbS t .nils none i)
    rw [rb_after0]
    rcases hend (by omega) with ⟨h, _, _⟩ | ⟨_, _, h, _⟩
    · exact hK.1 h
    · cases h
  · rw [rb_round1]
    refine Br.of (fun c => hinner (by have := of_decide_eq_true c; omega)) fun c => ?_
    have c' := of_decide_eq_false c
    show afterE rbE (keepW rbR 0) rbF rbP 0 K (.exit 0) (rbS t _ _ i)
    rw [rb_after1]
    have hi' : i = t.nr := by omega
    subst hi'
    exact hK.2 g hl hg
theorem rbars_ok (t : Trk) (hs : smallR t) : CallOK Tryd.prog 8 [.agg (trkC t)] [] (.ro (barL t).length 5 (barG (barL t))) [] [] :=
  callOK_rows (fun _ => rfl) fun K hK => calls_sat (env := tab.env s4 (fun _ => 0) (fun _ => false)) ⟨tab.htt, s4.ok⟩ tab.mixed (fun n => keepW_weaker n rbR) tab.hft 2 _ _ _ K (rbars_law t hs K hK)
theorem rbars_sat (xs : List SV) (σ : List (Option SB)) : Sat Tryd.prog 8 xs σ (cBars xs σ) := by
  intro K hK
  unfold cBars at hK
  split at hK
  · obtain ⟨h1, h2, hK⟩ := hK
    refine ⟨_, _, _, hK, ?_⟩
    rw [trkC_of h1]
    exact rbars_ok _ h2
  · exact hK.elim
def cTup (v : Trk → Int × Int) : List SV → List (Option SB) → KC → Prop
  | [.agg [.int .i64 a0, .int .i64 a1, .int .i64 a2, .int .i64 a3, .int .i64 a4, .int .i64 a5, .ro nh 1 h, .ro ng 1 g, .ro nk 3 kg, .ro nl 2 l, .ro nr 1 rl, .ro nt 5 gt, .int .i64 sx, .int .i64 sy, .int .u32 hd, .int .i64 lp]], [], K => trkS h g kg l rl gt ∧ smallC nr rl ∧ tupK (v (trkOf a0 a1 a2 a3 a4 a5 nh h ng g nk kg nl l nr rl nt gt sx sy hd lp)) K
  | _, _, _ => False
theorem cTup_sat {k : FuncId} {v : Trk → Int × Int} (h : ∀ t : Trk, smallR t → t.nr < 9223372036854775808 → t.nt < 9223372036854775808 → Sat Tryd.prog k [.agg (trkC t)] [] (tupK (v t))) (xs : List SV) (σ : List (Option SB)) : Sat Tryd.prog k xs σ (cTup v xs σ) := by
  refine sat_of_ok (fun K hK => ?_) fun hx _ K hK => ?_ <;> unfold cTup at hK <;> split at hK
  · exact ⟨_, _, _, hK.2.2⟩
  · exact hK.elim
  · obtain ⟨⟨_, _, _, _, _, _, _, _, _, _, hr, ht, _⟩, _⟩ := hx
    rw [trkC_of hK.1]
    refine h _ ?_ hr.1 ht.1 K hK.2.2
    exact hK.2.1
  · exact hK.elim
noncomputable def s5 : Know Tryd.prog := (s4).add 8 cBars rbars_sat
def cRArea : List SV → List (Option SB) → Out
  | [.agg [.int .i64 ax, .int .i64 ay], .agg [.int .i64 bx, .int .i64 ey], .agg [.int .i64 x, .int .i64 y]], [] => some (nSV (areaN ax ay bx ey x y), [], [])
  | _, _ => none
def cRDot : List SV → List (Option SB) → Out
  | [.agg [.int .i64 ax, .int .i64 ay], .agg [.int .i64 bx, .int .i64 ey], .agg [.int .i64 x, .int .i64 y]], [] => some (nSV (dotN ax ay bx ey x y), [], [])
  | _, _ => none
def cROpp : List SV → List (Option SB) → Out
  | [.agg [.bool s, .int .u64 a, .int .u64 b, .int .u64 c, .int .u64 d]], [] => some (.agg [.bool (!s && !(dv a b c d == 0)), .int .u64 a, .int .u64 b, .int .u64 c, .int .u64 d], [], [])
  | _, _ => none
noncomputable def s6 : Know Tryd.prog := s5
def sideN (ax ay bx ey x y : Int) : Int := bif farT ax ay bx ey x y then 0 else cmpI (areaN ax ay bx ey x y) 0
theorem sumN_range (s t : Int) : -170141183460469231731687303715884105728 ≤ sumN s t ∧ sumN s t < 170141183460469231731687303715884105728 := by
  unfold sumN
  cases h : in128 (s + t)
  · simp only [cond_false]; omega
  · simp only [cond_true]; exact (in128_iff _).1 h
theorem nvD_self {x : Int} (h0 : -340282366920938463463374607431768211456 < x) (h1 : x < 340282366920938463463374607431768211456) : nvD (decide (x < 0)) (absI x) = x := nvX_eq h0 h1
def cRSide : List SV → List (Option SB) → Out
  | [.agg [.int .i64 ax, .int .i64 ay], .agg [.int .i64 bx, .int .i64 ey], .agg [.int .i64 x, .int .i64 y]], [] => some (.int .i64 (sideN ax ay bx ey x y), [], [])
  | _, _ => none
noncomputable def s7 : Know Tryd.prog := s6
def ryR : List (Nat × Keep) := [(0, ⟨[7, 12, 13, 14], [4], [1, 2, 3, 4, 5, 6, 7, 8], 5, [(7, 4)]⟩)]
noncomputable abbrev ryE : Env := envL ryR (fun _ => 0) s7 1
abbrev ryP : List Nat := [1, 1, 1, 1, 1, 1, 1, 1, 0, 1, 0]
theorem cmp_lt (x y : Int) : decide (cmpI x y < 0) = decide (x < y) := by
  unfold cmpI
  cases h : decide (x < y)
  · simp only [cond_false]; cases decide (y < x) <;> rfl
  · rfl
noncomputable def s8 : Know Tryd.prog := s7
def rzR : List (Nat × Keep) := [(0, ⟨[1, 2, 3, 6, 7], [0], [1, 2, 3, 4, 5, 6], 1, []⟩)]
def rzS (t : Trk) (L : List Bar) (c a i : Int) : St := ⟨[(1, .ptr 0 0), (2, .int .i64 c), (3, .int .i64 a), (6, .ro L.length 5 (barG L)), (7, .int .i64 i)], [(0, some (.cells 34 (trkC t)))], 1, [1, 2, 3, 4, 5, 6], 124⟩
noncomputable abbrev rzE : Env := envL rzR (fun _ => 0) s8 1
abbrev rzP : List Nat := [1, 1, 1, 1, 1, 1, 1, 1, 1, 1, 0, 1, 0]
end Go.Proofs.YthnikhkcnapcaaaDoor
