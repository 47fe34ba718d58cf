import Derived.Test.YtbedljhbakdghaaGreatDoorTb
namespace Go.Proofs.YtbedljhbakdghaaGreatDoor
open Go.Se
set_option maxRecDepth 100000
abbrev genId : FuncId := 144
def genR : List (Nat × Keep) := [(0, ⟨[0, 2, 3, 14, 15, 16], [0], [], 1, []⟩)]
def fieldC (cell cols rows cx cy : Int) (n : Nat) (h : Nat → Int) (ng : Nat) (g : Nat → Int) : List SV := [.int .i64 cell, .int .i64 cols, .int .i64 rows, .int .i64 cx, .int .i64 cy, .ro n 1 (oneG h), .ro ng 1 (oneG g)]
def genS (cell cols rows cx cy : Int) (n : Nat) (h : Nat → Int) (ng : Nat) (g : Nat → Int) (w i : Int) : St :=
  ⟨[(0, .ptr 0 0), (2, .bool false), (3, .int .i64 w), (14, .ro n 1 (oneG h)), (15, .int .i64 n), (16, .int .i64 i)], [(0, some (.cells 204 (fieldC cell cols rows cx cy n h ng g)))], 1, [], 75⟩
noncomputable abbrev genE : Env := envL genR (fun _ => 0) p7 1
abbrev genP : List Nat := [1, 1, 0, 1, 0]
theorem gen_entry (cell cols rows cx cy : Int) (n : Nat) (h : Nat → Int) (ng : Nat) (g : Nat → Int) (K : KC) : runL genR (fun _ => 0) p7 2 genId [.ptr 0 0] [some (.cells 204 (fieldC cell cols rows cx cy n h ng g))] K =
    ∃ k, loopE genE (keepW genR 1) Tryz.f144 genP 0 1 K k (genS cell cols rows cx cy n h ng g (IntKind.i64.wrap (cols + 1)) 0) := by kernel_rfl
theorem gen_round (cell cols rows cx cy : Int) (n : Nat) (h : Nat → Int) (ng : Nat) (g : Nat → Int) (w : Int) (i : Nat) (K : Ex → St → Prop) : roundE genE (keepW genR 1) Tryz.f144 genP 0 K (genS cell cols rows cx cy n h ng g w i) =
  (Br (decide ((↑i : Int) < (↑n : Int))) (Br (decide (0 ≤ (↑i : Int)) && decide ((↑i : Int) < (↑n : Int))) (Br (w != 0) (Br ((IntKind.i64.wrap ((↑i : Int) + 1)).tmod w != 0) (Br (decide (0 ≤ IntKind.i64.wrap ((↑i : Int) + 1)) && decide (IntKind.i64.wrap ((↑i : Int) + 1) < (↑n : Int))) (Br (!!sizeP cell (IntKind.i64.wrap (h (IntKind.i64.wrap ((↑i : Int) + 1)).toNat - h (↑i : Int).toNat))) (K Ex.ret { tmps := [(0, SV.ptr 0 0), (2, SV.bool false), (3, SV.int .i64 w), (14, SV.ro n 1 (oneG h)), (15, SV.int .i64 (↑n : Int)), (16, SV.int .i64 (↑i : Int))], store := [(0, some (SB.cells 204 [SV.int .i64 cell, SV.int .i64 cols, SV.int .i64 rows, SV.int .i64 cx, SV.int .i64 cy, SV.ro n 1 (oneG h), SV.ro ng 1 (oneG g)]))], nxt := 1, dirty := [], nt := 75 }) (Br (decide (IntKind.i64.wrap ((↑i : Int) + w) < (↑n : Int))) (Br (decide (0 ≤ IntKind.i64.wrap ((↑i : Int) + w)) && decide (IntKind.i64.wrap ((↑i : Int) + w) < (↑n : Int))) (Br (!!sizeP cell (IntKind.i64.wrap (h (IntKind.i64.wrap ((↑i : Int) + w)).toNat - h (↑i : Int).toNat))) (K Ex.ret { tmps := [(0, SV.ptr 0 0), (2, SV.bool false), (3, SV.int .i64 w), (14, SV.ro n 1 (oneG h)), (15, SV.int .i64 (↑n : Int)), (16, SV.int .i64 (↑i : Int))], store := [(0, some (SB.cells 204 [SV.int .i64 cell, SV.int .i64 cols, SV.int .i64 rows, SV.int .i64 cx, SV.int .i64 cy, SV.ro n 1 (oneG h), SV.ro ng 1 (oneG g)]))], nxt := 1, dirty := [], nt := 75 }) (K Ex.normal { tmps := [(0, SV.ptr 0 0), (2, SV.bool false), (3, SV.int .i64 w), (14, SV.ro n 1 (oneG h)), (15, SV.int .i64 (↑n : Int)), (16, SV.int .i64 (IntKind.i64.wrap ((↑i : Int) + 1)))], store := [(0, some (SB.cells 204 [SV.int .i64 cell, SV.int .i64 cols, SV.int .i64 rows, SV.int .i64 cx, SV.int .i64 cy, SV.ro n 1 (oneG h), SV.ro ng 1 (oneG g)]))], nxt := 1, dirty := [], nt := 75 })) (False)) (K Ex.normal { tmps := [(0, SV.ptr 0 0), (2, SV.bool false), (3, SV.int .i64 w), (14, SV.ro n 1 (oneG h)), (15, SV.int .i64 (↑n : Int)), (16, SV.int .i64 (IntKind.i64.wrap ((↑i : Int) + 1)))], store := [(0, some (SB.cells 204 [SV.int .i64 cell, SV.int .i64 cols, SV.int .i64 rows, SV.int .i64 cx, SV.int .i64 cy, SV.ro n 1 (oneG h), SV.ro ng 1 (oneG g)]))], nxt := 1, dirty := [], nt := 75 }))) (False)) (Br (decide (IntKind.i64.wrap ((↑i : Int) + w) < (↑n : Int))) (Br (decide (0 ≤ IntKind.i64.wrap ((↑i : Int) + w)) && decide (IntKind.i64.wrap ((↑i : Int) + w) < (↑n : Int))) (Br (!!sizeP cell (IntKind.i64.wrap (h (IntKind.i64.wrap ((↑i : Int) + w)).toNat - h (↑i : Int).toNat))) (K Ex.ret { tmps := [(0, SV.ptr 0 0), (2, SV.bool false), (3, SV.int .i64 w), (14, SV.ro n 1 (oneG h)), (15, SV.int .i64 (↑n : Int)), (16, SV.int .i64 (↑i : Int))], store := [(0, some (SB.cells 204 [SV.int .i64 cell, SV.int .i64 cols, SV.int .i64 rows, SV.int .i64 cx, SV.int .i64 cy, SV.ro n 1 (oneG h), SV.ro ng 1 (oneG g)]))], nxt := 1, dirty := [], nt := 75 }) (K Ex.normal { tmps := [(0, SV.ptr 0 0), (2, SV.bool false), (3, SV.int .i64 w), (14, SV.ro n 1 (oneG h)), (15, SV.int .i64 (↑n : Int)), (16, SV.int .i64 (IntKind.i64.wrap ((↑i : Int) + 1)))], store := [(0, some (SB.cells 204 [SV.int .i64 cell, SV.int .i64 cols, SV.int .i64 rows, SV.int .i64 cx, SV.int .i64 cy, SV.ro n 1 (oneG h), SV.ro ng 1 (oneG g)]))], nxt := 1, dirty := [], nt := 75 })) (False)) (K Ex.normal { tmps := [(0, SV.ptr 0 0), (2, SV.bool false), (3, SV.int .i64 w), (14, SV.ro n 1 (oneG h)), (15, SV.int .i64 (↑n : Int)), (16, SV.int .i64 (IntKind.i64.wrap ((↑i : Int) + 1)))], store := [(0, some (SB.cells 204 [SV.int .i64 cell, SV.int .i64 cols, SV.int .i64 rows, SV.int .i64 cx, SV.int .i64 cy, SV.ro n 1 (oneG h), SV.ro ng 1 (oneG g)]))], nxt := 1, dirty := [], nt := 75 }))) (False)) (False)) (K (Ex.exit 0) { tmps := [(0, SV.ptr 0 0), (2, SV.bool false), (3, SV.int .i64 w), (14, SV.ro n 1 (oneG h)), (15, SV.int .i64 (↑n : Int)), (16, SV.int .i64 (↑i : Int))], store := [(0, some (SB.cells 204 [SV.int .i64 cell, SV.int .i64 cols, SV.int .i64 rows, SV.int .i64 cx, SV.int .i64 cy, SV.ro n 1 (oneG h), SV.ro ng 1 (oneG g)]))], nxt := 1, dirty := [], nt := 75 })) := by kernel_rfl
theorem gen_ret (cell cols rows cx cy : Int) (n : Nat) (h : Nat → Int) (ng : Nat) (g : Nat → Int) (w i : Int) (K : KC) : afterE genE (keepW genR 1) Tryz.f144 genP 1 K .ret (genS cell cols rows cx cy n h ng g w i) =
  (K (SV.bool false) [some (SB.cells 204 [SV.int .i64 cell, SV.int .i64 cols, SV.int .i64 rows, SV.int .i64 cx, SV.int .i64 cy, SV.ro n 1 (oneG h), SV.ro ng 1 (oneG g)])] []) := by kernel_rfl
theorem gen_after (cell cols rows cx cy : Int) (n : Nat) (h : Nat → Int) (ng : Nat) (g : Nat → Int) (w i : Int) (K : KC) : afterE genE (keepW genR 1) Tryz.f144 genP 1 K (.exit 0) (genS cell cols rows cx cy n h ng g w i) =
  (K (SV.bool true) [some (SB.cells 204 [SV.int .i64 cell, SV.int .i64 cols, SV.int .i64 rows, SV.int .i64 cx, SV.int .i64 cy, SV.ro n 1 (oneG h), SV.ro ng 1 (oneG g)])] []) := by kernel_rfl
theorem gen_ok (cell cols rows cx cy : Int) (n : Nat) (h : Nat → Int) (ng : Nat) (g : Nat → Int) (w R : Nat) (hw : cols + 1 = (w : Int)) (hw1 : 1 ≤ w) (hw2 : w ≤ 65) (hn : n = w * R) (hn' : n ≤ 1000000) :
    CallOK Tryz.prog genId [.ptr 0 0] [some (.cells 204 (fieldC cell cols rows cx cy n h ng g))] (.bool (!anyB (steepB h cell w n) n)) [some (.cells 204 (fieldC cell cols rows cx cy n h ng g))] [] :=
  runL_ok genR (fun _ => 0) p7 2 (fun _ h => nomatch h) fun _ _ K hK => by
    have hK := hK [] fun _ h => nomatch h
    rw [gen_entry, hw, wi64_nat (by omega)]
    refine ⟨n + 1, loop_up (fun i : Nat => genS cell cols rows cx cy n h ng g w i) n (fun i => ∀ j, j < i → steepB h cell w n j = false) (fun i hi hI X hX => ?_) (fun hI X => ?_) (fun j hj => absurd hj (Nat.not_lt_zero j))⟩
    · have hret : steepB h cell w n i = true → nextK X (afterE genE (keepW genR 1) Tryz.f144 genP 1 K) .ret (genS cell cols rows cx cy n h ng g w i) := fun hs => by
        show afterE genE (keepW genR 1) Tryz.f144 genP 1 K .ret _
        rw [gen_ret]
        rw [show anyB (steepB h cell w n) n = true from anyB_iff.2 ⟨i, hi, hs⟩] at hK
        exact hK
      have hnext : steepB h cell w n i = false → nextK X (afterE genE (keepW genR 1) Tryz.f144 genP 1 K) .normal (genS cell cols rows cx cy n h ng g w (i + 1 : Nat)) := fun hs => by
        refine hX fun j hj => ?_
        rcases Nat.lt_or_eq_of_le (Nat.le_of_lt_succ hj) with hj | rfl
        · exact hI j hj
        · exact hs
      have hend : (i + 1) % w ≠ 0 → i + 1 < n := fun h1 => by
        rcases Nat.lt_or_eq_of_le (Nat.succ_le_of_lt hi) with h2 | h2
        · exact h2
        · rw [show i + 1 = n from h2, hn, Nat.mul_mod_right] at h1
          exact absurd rfl h1
      rw [gen_round, wi64_succ (n := n) hi (by omega), show (i : Int) + (w : Int) = ((i + w : Nat) : Int) by omega, wi64_nat (n := i + w) (by omega), tmod_nat, bne_nat, bne_nat]
      simp only [Int.toNat_natCast, Bool.not_not]
      unfold steepB at hret hnext
      refine Br.of (fun _ => Br.of (fun _ => Br.of (fun _ => Br.of (fun c1 => Br.of (fun _ => Br.of (fun c2 => ?_) fun c2 => Br.of (fun c3 => Br.of (fun _ => Br.of (fun c4 => ?_) fun c4 => ?_) fun c => ?_) fun c3 => ?_) fun c => ?_) fun c1 => Br.of (fun c3 => Br.of (fun _ => Br.of (fun c4 => ?_) fun c4 => ?_) fun c => ?_) fun c3 => ?_) fun c => ?_) fun c => ?_) fun c => ?_
      · exact hret (by rw [c1, c2]; rfl)
      · exact hret (by rw [c4, show decide (i + w < n) = true from decide_eq_true (by have := of_decide_eq_true c3; omega), Bool.true_and, Bool.or_true])
      · exact hnext (by rw [c2, c4, Bool.and_false, Bool.and_false]; rfl)
      · have := of_decide_eq_true c3
        simp only [Bool.and_eq_false_iff, decide_eq_false_iff_not] at c; omega
      · exact hnext (by rw [c2, show decide (i + w < n) = false from decide_eq_false (by have := of_decide_eq_false c3; omega), Bool.and_false]; rfl)
      · have := hend (of_decide_eq_true c1)
        simp only [Bool.and_eq_false_iff, decide_eq_false_iff_not] at c; omega
      · exact hret (by rw [c4, show decide (i + w < n) = true from decide_eq_true (by have := of_decide_eq_true c3; omega), Bool.true_and, Bool.or_true])
      · exact hnext (by rw [c1, c4, Bool.and_false]; rfl)
      · have := of_decide_eq_true c3
        simp only [Bool.and_eq_false_iff, decide_eq_false_iff_not] at c; omega
      · exact hnext (by rw [c1, show decide (i + w < n) = false from decide_eq_false (by have := of_decide_eq_false c3; omega)]; rfl)
      · have := of_decide_eq_false c; omega
      · simp only [Bool.and_eq_false_iff, decide_eq_false_iff_not] at c; omega
      · have := of_decide_eq_false c; omega
    · rw [gen_round]
      refine Br.of (fun c => absurd (of_decide_eq_true c) (by omega)) fun _ => ?_
      show afterE genE (keepW genR 1) Tryz.f144 genP 1 K (.exit 0) (genS cell cols rows cx cy n h ng g w n)
      rw [gen_after]
      rw [show anyB (steepB h cell w n) n = false from anyB_false.2 hI] at hK
      exact hK
def cGentle : List SV → List (Option SB) → KC → Prop
  | [.ptr 0 0], [some (.cells 204 [.int .i64 cell, .int .i64 cols, .int .i64 rows, .int .i64 cx, .int .i64 cy, .ro n 1 h, .ro ng 1 g])], K => (ones h ∧ ones g) ∧ (∃ R : Nat, (0 ≤ cols ∧ cols ≤ 64) ∧ n = (cols + 1).toNat * R ∧ n ≤ 1000000) ∧
    K (.bool (!anyB (steepB (fun i => px (h i)) cell (cols + 1).toNat n) n)) [some (.cells 204 [.int .i64 cell, .int .i64 cols, .int .i64 rows, .int .i64 cx, .int .i64 cy, .ro n 1 h, .ro ng 1 g])] []
  | _, _, _ => False
theorem gentle_sat (xs : List SV) (σ : List (Option SB)) : Sat Tryz.prog genId xs σ (cGentle xs σ) := by
  intro K hK
  unfold cGentle at hK
  split at hK
  · rename_i cell cols rows cx cy n h ng g
    obtain ⟨⟨e1, e2⟩, ⟨R, h1, h2, h3⟩, hK⟩ := hK
    refine ⟨_, _, _, hK, ?_⟩
    have := gen_ok cell cols rows cx cy n (fun i => px (h i)) ng (fun i => px (g i)) (cols + 1).toNat R (by omega) (by omega) (by omega) h2 h3
    unfold fieldC at this
    rw [← ones_eq e1, ← ones_eq e2] at this
    exact this
  · exact hK.elim
noncomputable def p8 : Know Tryz.prog := (p7).add genId cGentle gentle_sat
theorem fnew_nf (t : Trk) (K : KC) : run p8 4 121 [.agg (trkC t)] [] K =
  ((trkS (oneG t.h) (oneG t.g) (kindG t) (ptsG t.lx t.ly) (railG t) (gateG t)) ∧ (Br (!countedB t.cols t.rows t.nh t.ng t.nk) (K (SV.tup [SV.nilp, SV.int .i64 42]) [] []) ((ones (oneG t.h)) ∧ ((t.nh ≤ 1000000) ∧ ((ones (oneG t.g)) ∧ ((t.ng ≤ 1000000) ∧ (Br (decide (t.cell < 17179869184)) (K (SV.tup [SV.nilp, SV.int .i64 40]) [] []) (Br (decide (t.cell > 274877906944)) (K (SV.tup [SV.nilp, SV.int .i64 40]) [] []) (Br (!!(sizeP 140737488355328 t.cx || sizeP 140737488355328 t.cy)) (K (SV.tup [SV.nilp, SV.int .i64 40]) [] []) ((ones (oneG t.h)) ∧ (Br (!!anyB (fun (i : Nat) => sizeP 2199023255552 (px (oneG t.h i))) t.nh) (K (SV.tup [SV.nilp, SV.int .i64 40]) [] []) ((ones (oneG t.h) ∧ ones (oneG t.g)) ∧ ((∃ (R : Nat), (0 ≤ t.cols ∧ t.cols ≤ 64) ∧ t.nh = (t.cols + 1).toNat * R ∧ t.nh ≤ 1000000) ∧ (Br (!!anyB (steepB (fun (i : Nat) => px (oneG t.h i)) t.cell (t.cols + 1).toNat t.nh) t.nh) (K (SV.tup [SV.nilp, SV.int .i64 40]) [] []) ((ones (oneG t.g)) ∧ (Br (decide (fstB (fun (i : Nat) => noneP t.nk (px (oneG t.g i))) t.ng 0 ≥ 0)) (K (SV.tup [SV.nilp, SV.int .i64 40]) [] []) ((kindsG (kindG t)) ∧ (Br (decide (fstB (fun (i : Nat) => oddP (px (kindG t i)) (py (kindG t i))) t.nk 0 ≥ 0)) (K (SV.tup [SV.nilp, SV.int .i64 40]) [] []) (K (SV.tup [SV.ptr 0 0, SV.int .i64 0]) [some (SB.cells 204 [SV.int .i64 t.cell, SV.int .i64 t.cols, SV.int .i64 t.rows, SV.int .i64 t.cx, SV.int .i64 t.cy, SV.ro t.nh 1 (oneG t.h), SV.ro t.ng 1 (oneG t.g)])] []))))))))))))))))))) := by kernel_rfl
def fieldK (t : Trk) (K : KC) : Prop :=
  Br (fieldV t == 0) (K (.tup [.ptr 0 0, .int .i64 0]) [some (.cells 204 [.int .i64 t.cell, .int .i64 t.cols, .int .i64 t.rows, .int .i64 t.cx, .int .i64 t.cy, .ro t.nh 1 (oneG t.h), .ro t.ng 1 (oneG t.g)])] []) (K (.tup [.nilp, .int .i64 (fieldV t)]) [] [])
theorem fnew_law (t : Trk) (K : KC) (hK : fieldK t K) : run p8 4 121 [.agg (trkC t)] [] K := by
  rw [fnew_nf]
  refine ⟨trkS_of t, ?_⟩
  unfold fieldK fieldV at hK
  refine Br.of (fun c => ?_) fun c => ?_
  · rw [Bool.not_eq_true'] at c
    rw [c] at hK
    exact hK
  · rw [Bool.not_eq_false'] at c
    rw [c] at hK
    obtain ⟨⟨h1, _, _⟩, _, _, h2, h3, h4⟩ := counted_facts c
    refine ⟨fun _ => rfl, by omega, fun _ => rfl, by omega, ?_⟩
    simp only [cond_true] at hK
    have bad : fieldBad t = true → K (SV.tup [SV.nilp, SV.int .i64 40]) [] [] := fun h => by rw [h] at hK; exact hK
    unfold fieldBad at bad
    refine Br.of (fun c1 => bad (by rw [c1]; rfl)) fun c1 => Br.of (fun c2 => bad (by rw [c2]; exact Bool.or_true _)) fun c2 => ?_
    refine Br.of (fun c3 => bad (by rw [Bool.not_not] at c3; rw [c3, Bool.true_or, Bool.or_true, Bool.or_true])) fun c3 => ⟨fun _ => rfl, ?_⟩
    rw [Bool.not_not] at c3
    refine Br.of (fun c4 => bad ?_) fun c4 => ⟨⟨fun _ => rfl, fun _ => rfl⟩, ⟨(t.rows + 1).toNat, by omega, h2, by omega⟩, ?_⟩
    · rw [Bool.not_not] at c4
      have c4' : anyB (fun i => sizeP 2199023255552 (t.h i)) t.nh = true := c4
      rw [c4', Bool.true_or, Bool.or_true, Bool.or_true, Bool.or_true]
    rw [Bool.not_not] at c4
    have c4' : anyB (fun i => sizeP 2199023255552 (t.h i)) t.nh = false := c4
    refine Br.of (fun c5 => bad ?_) fun c5 => ⟨fun _ => rfl, ?_⟩
    · rw [Bool.not_not] at c5
      have c5' : anyB (steepB t.h t.cell (t.cols + 1).toNat t.nh) t.nh = true := c5
      rw [c5', Bool.true_or, Bool.or_true, Bool.or_true, Bool.or_true, Bool.or_true]
    rw [Bool.not_not] at c5
    have c5' : anyB (steepB t.h t.cell (t.cols + 1).toNat t.nh) t.nh = false := c5
    refine Br.of (fun c6 => bad ?_) fun c6 => ⟨fun _ => rfl, ?_⟩
    · have c6' : anyB (fun i => noneP t.nk (t.g i)) t.ng = true := c6
      rw [c6', Bool.true_or, Bool.or_true, Bool.or_true, Bool.or_true, Bool.or_true, Bool.or_true]
    have c6' : anyB (fun i => noneP t.nk (t.g i)) t.ng = false := c6
    refine Br.of (fun c7 => bad ?_) fun c7 => ?_
    · have c7' : anyB (fun i => oddP (t.kg i) (t.kd i)) t.nk = true := c7
      rw [c7', Bool.or_true, Bool.or_true, Bool.or_true, Bool.or_true, Bool.or_true, Bool.or_true]
    have c7' : anyB (fun i => oddP (t.kg i) (t.kd i)) t.nk = false := c7
    rw [show fieldBad t = false by unfold fieldBad; rw [c1, c2, c3, c4', c5', c6', c7']; rfl] at hK
    exact hK
def cFNew : List SV → List (Option SB) → KC → Prop
  | [.agg [.int .i64 a0, .int .i64 a1, .int .i64 a2, .int .i64 a3, .int .i64 a4, .int .i64 a5, .ro nh 1 h, .ro ng 1 g, .ro nk 3 kg, .ro nl 2 l, .ro nr 1 rl, .ro nt 5 gt, .int .i64 sx, .int .i64 sy, .int .u32 hd, .int .i64 lp]], [], K => trkS h g kg l rl gt ∧ fieldK (trkOf a0 a1 a2 a3 a4 a5 nh h ng g nk kg nl l nr rl nt gt sx sy hd lp) K
  | _, _, _ => False
theorem fnew_sat (xs : List SV) (σ : List (Option SB)) : Sat Tryz.prog 121 xs σ (cFNew xs σ) := by
  intro K hK
  unfold cFNew at hK
  split at hK
  · rw [trkC_of hK.1]
    exact calls_sat (env := tab.env p8 (fun _ => 0) (fun _ => false)) ⟨tab.htt, p8.ok⟩ tab.mixed (fun n => keepW_weaker n []) tab.hft 4 _ _ _ K (fnew_law _ K hK.2)
  · exact hK.elim
end Go.Proofs.YtbedljhbakdghaaGreatDoor

namespace Go.Proofs.YtbedljhbakdghaaGreatDoor
open Go.Se
set_option maxRecDepth 100000
abbrev cpId : FuncId := 126
def cpR : List (Nat × Keep) := [(0, ⟨[0, 2, 3], [0], [0], 1, []⟩), (2, ⟨[0, 2, 3, 4, 5], [0], [0], 1, []⟩)]
def cpS (n : Nat) (X Y : Nat → Int) (k : Int) : St := ⟨[(0, .own 0 0 2 n), (2, .nils), (3, .int .i64 k)], [(0, some (.row 24 2 n (farCells X Y)))], 1, [0], 61⟩
def cpT (n k0 : Nat) (X Y : Nat → Int) (k k2 : Int) : St := ⟨[(0, .own 0 0 2 n), (2, .nils), (3, .int .i64 k), (4, .own 0 k0 2 (n - k0)), (5, .int .i64 k2)], [(0, some (.row 24 2 n (farCells X Y)))], 1, [0], 61⟩
noncomputable abbrev cpE : Env := envL cpR (fun _ => 0) p8 1
abbrev cpP : List Nat := [1, 1, 0, 1, 0]
abbrev cpI : List Nat := [1, 0, 0, 1, 0, 1, 0, 1, 0]
noncomputable abbrev cpF : Func := Tryz.f126
theorem cp_entry (n : Nat) (X Y : Nat → Int) (K : KC) : runL cpR (fun _ => 0) p8 2 cpId [.own 0 0 2 n] [some (.row 24 2 n (farCells X Y))] K =
  (Br (decide ((↑n : Int) < 2)) (K (SV.own 0 0 2 n) [some (SB.row 24 2 n (farCells X Y))] []) (∃ q_, loopE cpE (keepW cpR 1) cpF cpP 0 1 K q_ { tmps := [(0, SV.own 0 0 2 n), (2, SV.nils), (3, SV.int .i64 1)], store := [(0, some (SB.row 24 2 n (farCells X Y)))], nxt := 1, dirty := [0], nt := 61 })) := by kernel_rfl
theorem cp_round (n : Nat) (X Y : Nat → Int) (k : Nat) (K : Ex → St → Prop) : roundE cpE (keepW cpR 1) cpF cpP 0 K (cpS n X Y k) =
  (Br (decide ((↑k : Int) < (↑n : Int))) (Br (decide (0 ≤ (↑k : Int)) && decide ((↑k : Int) < (↑n : Int))) (Br (decide (0 + (↑k : Int).toNat < n)) (Br (decide (0 ≤ IntKind.i64.wrap ((↑k : Int) - 1)) && decide (IntKind.i64.wrap ((↑k : Int) - 1) < (↑n : Int))) (Br (decide (0 + (IntKind.i64.wrap ((↑k : Int) - 1)).toNat < n)) (Br (X (0 + (↑k : Int).toNat) == X (0 + (IntKind.i64.wrap ((↑k : Int) - 1)).toNat) && Y (0 + (↑k : Int).toNat) == Y (0 + (IntKind.i64.wrap ((↑k : Int) - 1)).toNat)) (Br (decide (0 ≤ (↑k : Int)) && (decide ((↑k : Int) ≤ (↑n : Int)) && decide ((↑n : Int) ≤ (↑n : Int))) && decide (n < 9223372036854775808)) (Br (decide ((↑k : Int) < (↑n : Int))) (∃ q_, iter (roundE cpE (keepW cpR 1) cpF (cpP ++ [0] ++ cpI) 2) (nestK cpE (keepW cpR 1) cpF cpP 0 cpI K) q_ { tmps := [(0, SV.own 0 0 2 n), (2, SV.nils), (3, SV.int .i64 (↑k : Int)), (4, SV.own 0 (0 + (↑k : Int).toNat) 2 ((↑n : Int).toNat - (↑k : Int).toNat)), (5, SV.int .i64 1)], store := [(0, some (SB.row 24 2 n (farCells X Y)))], nxt := 1, dirty := [0], nt := 61 }) (∃ q_, iter (roundE cpE (keepW cpR 1) cpF (cpP ++ [0] ++ cpI) 2) (nestK cpE (keepW cpR 1) cpF cpP 0 cpI K) q_ { tmps := [(0, SV.own 0 0 2 n), (2, SV.nils), (3, SV.int .i64 (↑k : Int)), (4, SV.ro 0 2 fun (x : Nat) => []), (5, SV.int .i64 1)], store := [(0, some (SB.row 24 2 n (farCells X Y)))], nxt := 1, dirty := [0], nt := 61 })) (False)) (K Ex.normal { tmps := [(0, SV.own 0 0 2 n), (2, SV.nils), (3, SV.int .i64 (IntKind.i64.wrap ((↑k : Int) + 1)))], store := [(0, some (SB.row 24 2 n (farCells X Y)))], nxt := 1, dirty := [0], nt := 61 })) (False)) (False)) (False)) (False)) (K (Ex.exit 0) { tmps := [(0, SV.own 0 0 2 n), (2, SV.nils), (3, SV.int .i64 (↑k : Int))], store := [(0, some (SB.row 24 2 n (farCells X Y)))], nxt := 1, dirty := [0], nt := 61 })) := by kernel_rfl
theorem cp_in (n k0 : Nat) (X Y : Nat → Int) (k k2 : Nat) (K : Ex → St → Prop) : roundE cpE (keepW cpR 1) cpF (cpP ++ [0] ++ cpI) 2 K (cpT n k0 X Y k k2) =
  (Br (decide ((↑k2 : Int) < (↑(n - k0) : Int))) (Br (decide (0 ≤ (↑k2 : Int)) && decide ((↑k2 : Int) < (↑(n - k0) : Int))) (Br (decide (k0 + (↑k2 : Int).toNat < n)) (Br (decide (0 ≤ IntKind.i64.wrap ((↑k2 : Int) - 1)) && decide (IntKind.i64.wrap ((↑k2 : Int) - 1) < (↑(n - k0) : Int))) (Br (decide (k0 + (IntKind.i64.wrap ((↑k2 : Int) - 1)).toNat < n)) (Br (!(X (k0 + (↑k2 : Int).toNat) == X (k0 + (IntKind.i64.wrap ((↑k2 : Int) - 1)).toNat) && Y (k0 + (↑k2 : Int).toNat) == Y (k0 + (IntKind.i64.wrap ((↑k2 : Int) - 1)).toNat))) (Br (decide (0 ≤ (↑k2 : Int)) && decide ((↑k2 : Int) < (↑(n - k0) : Int))) (Br (decide (k0 + (↑k2 : Int).toNat < n)) (Br (decide (0 ≤ (↑k : Int)) && decide ((↑k : Int) < (↑n : Int))) (Br (decide (0 + (↑k : Int).toNat < n)) (K Ex.normal { tmps := [(0, SV.own 0 0 2 n), (2, SV.nils), (3, SV.int .i64 (IntKind.i64.wrap ((↑k : Int) + 1))), (4, SV.own 0 k0 2 (n - k0)), (5, SV.int .i64 (IntKind.i64.wrap ((↑k2 : Int) + 1)))], store := [(0, some (SB.row 24 2 n (rowPut (0 + (↑k : Int).toNat) [SV.int .i64 (X (k0 + (↑k2 : Int).toNat)), SV.int .i64 (Y (k0 + (↑k2 : Int).toNat))] (farCells X Y))))], nxt := 1, dirty := [0], nt := 61 }) (False)) (False)) (False)) (False)) (K Ex.normal { tmps := [(0, SV.own 0 0 2 n), (2, SV.nils), (3, SV.int .i64 (↑k : Int)), (4, SV.own 0 k0 2 (n - k0)), (5, SV.int .i64 (IntKind.i64.wrap ((↑k2 : Int) + 1)))], store := [(0, some (SB.row 24 2 n (farCells X Y)))], nxt := 1, dirty := [0], nt := 61 })) (False)) (False)) (False)) (False)) (K (Ex.exit 2) { tmps := [(0, SV.own 0 0 2 n), (2, SV.nils), (3, SV.int .i64 (↑k : Int)), (4, SV.own 0 k0 2 (n - k0)), (5, SV.int .i64 (↑k2 : Int))], store := [(0, some (SB.row 24 2 n (farCells X Y)))], nxt := 1, dirty := [0], nt := 61 })) := by kernel_rfl
theorem cp_nest (n k0 : Nat) (X Y : Nat → Int) (k k2 : Nat) (K : Ex → St → Prop) : nestK cpE (keepW cpR 1) cpF cpP 0 cpI K (.exit 2) (cpT n k0 X Y k k2) =
  (Br (decide (0 ≤ (↑k : Int)) && (decide ((↑k : Int) ≤ (↑n : Int)) && decide ((↑n : Int) ≤ (↑n : Int))) && decide (n < 9223372036854775808)) (Br (decide ((↑k : Int) < (↑n : Int))) (Br (true && (decide (0 ≤ (↑k : Int)) && decide ((↑k : Int) ≤ (↑n : Int))) && decide (n < 9223372036854775808)) (Br (decide (0 < (↑k : Int))) (K Ex.ret { tmps := [(0, SV.own 0 0 2 n), (2, SV.own 0 0 2 ((↑k : Int).toNat - 0)), (3, SV.int .i64 (↑k : Int))], store := [(0, none)], nxt := 1, dirty := [0], nt := 61 }) (K Ex.ret { tmps := [(0, SV.own 0 0 2 n), (2, SV.ro 0 2 fun (x : Nat) => []), (3, SV.int .i64 (↑k : Int))], store := [(0, none)], nxt := 1, dirty := [0], nt := 61 })) (False)) (Br (true && (decide (0 ≤ (↑k : Int)) && decide ((↑k : Int) ≤ (↑n : Int))) && decide (n < 9223372036854775808)) (Br (decide (0 < (↑k : Int))) (K Ex.ret { tmps := [(0, SV.own 0 0 2 n), (2, SV.own 0 0 2 ((↑k : Int).toNat - 0)), (3, SV.int .i64 (↑k : Int))], store := [(0, some (SB.row 24 2 n (farCells X Y)))], nxt := 1, dirty := [0], nt := 61 }) (K Ex.ret { tmps := [(0, SV.own 0 0 2 n), (2, SV.ro 0 2 fun (x : Nat) => []), (3, SV.int .i64 (↑k : Int))], store := [(0, some (SB.row 24 2 n (farCells X Y)))], nxt := 1, dirty := [0], nt := 61 })) (False))) (False)) := by kernel_rfl
theorem cp_after (n : Nat) (X Y : Nat → Int) (k : Nat) (K : KC) : afterE cpE (keepW cpR 1) cpF cpP 1 K (.exit 0) (cpS n X Y k) =
  (K (SV.own 0 0 2 n) [some (SB.row 24 2 n (farCells X Y))] [0]) := by kernel_rfl
theorem cp_ret (n m : Nat) (k : Int) (K : KC) : afterE cpE (keepW cpR 1) cpF cpP 1 K .ret ⟨[(0, .own 0 0 2 n), (2, .own 0 0 2 m), (3, .int .i64 k)], [(0, none)], 1, [0], 61⟩ = K (.own 0 0 2 m) [none] [0] := by kernel_rfl
theorem cp_inner (n k0 : Nat) (hn : n < 9223372036854775808) (hk0 : 1 ≤ k0) (K : Ex → St → Prop)
    (hK : ∀ m, m < n → K .ret ⟨[(0, .own 0 0 2 n), (2, .own 0 0 2 m), (3, .int .i64 m)], [(0, none)], 1, [0], 61⟩) :
    ∀ (f : Nat) (a : Nat × Nat × (Nat → Int) × (Nat → Int)), ((k0 ≤ a.1 ∧ a.1 < k0 + a.2.1) ∧ 1 ≤ a.2.1 ∧ a.2.1 ≤ n - k0) → n - k0 - a.2.1 < f →
      iter (roundE cpE (keepW cpR 1) cpF (cpP ++ [0] ++ cpI) 2) (nestK cpE (keepW cpR 1) cpF cpP 0 cpI K) f (cpT n k0 a.2.2.1 a.2.2.2 a.1 a.2.1) :=
  loop_m (fun a : Nat × Nat × (Nat → Int) × (Nat → Int) => cpT n k0 a.2.2.1 a.2.2.2 a.1 a.2.1) (fun a => n - k0 - a.2.1) (fun a => (k0 ≤ a.1 ∧ a.1 < k0 + a.2.1) ∧ 1 ≤ a.2.1 ∧ a.2.1 ≤ n - k0)
    (fun a => by
      obtain ⟨k, k2, X, Y⟩ := a
      rintro ⟨⟨h1, h2⟩, h3, h4⟩ Z hZ
      simp only at h1 h2 h3 h4
      show roundE cpE (keepW cpR 1) cpF (cpP ++ [0] ++ cpI) 2 _ (cpT n k0 X Y k k2)
      rw [cp_in, wi64_pred h3 (by omega)]
      simp only [Int.toNat_natCast, Nat.zero_add]
      refine Br.of (fun c1 => ?_) fun c1 => ?_
      · have c1' := of_decide_eq_true c1
        refine Br.of (fun _ => Br.of (fun _ => Br.of (fun _ => Br.of (fun _ => Br.of (fun _ => Br.of (fun _ => Br.of (fun _ => Br.of (fun _ => Br.of (fun _ => ?_) fun c => ?_) fun c => ?_) fun c => ?_) fun c => ?_) fun _ => ?_) fun c => ?_) fun c => ?_) fun c => ?_) fun c => ?_
        · show Z _
          rw [rowPut_far, wi64_succ (n := n) (by omega) hn, wi64_succ (n := n) (by omega) hn]
          exact hZ (k + 1, k2 + 1, _, _) ⟨⟨by show k0 ≤ k + 1; omega, by show k + 1 < k0 + (k2 + 1); omega⟩, by show 1 ≤ k2 + 1; omega, by show k2 + 1 ≤ n - k0; omega⟩ (by show n - k0 - (k2 + 1) < n - k0 - k2; omega)
        · have := of_decide_eq_false c; omega
        · simp only [Bool.and_eq_false_iff, decide_eq_false_iff_not] at c; omega
        · have := of_decide_eq_false c; omega
        · simp only [Bool.and_eq_false_iff, decide_eq_false_iff_not] at c; omega
        · show Z _
          rw [wi64_succ (n := n) (by omega) hn]
          exact hZ (k, k2 + 1, X, Y) ⟨⟨h1, by show k < k0 + (k2 + 1); omega⟩, by show 1 ≤ k2 + 1; omega, by show k2 + 1 ≤ n - k0; omega⟩ (by show n - k0 - (k2 + 1) < n - k0 - k2; omega)
        · have := of_decide_eq_false c; omega
        · simp only [Bool.and_eq_false_iff, decide_eq_false_iff_not] at c; omega
        · have := of_decide_eq_false c; omega
        · simp only [Bool.and_eq_false_iff, decide_eq_false_iff_not] at c; omega
      · have c1' := of_decide_eq_false c1
        show nestK cpE (keepW cpR 1) cpF cpP 0 cpI K (.exit 2) (cpT n k0 X Y k k2)
        rw [cp_nest]
        simp only [Int.toNat_natCast, Nat.sub_zero]
        refine Br.of (fun _ => Br.of (fun _ => Br.of (fun _ => Br.of (fun _ => hK k (by omega)) fun c => ?_) fun c => ?_) fun c => ?_) fun c => ?_
        · have := of_decide_eq_false c; omega
        · simp only [Bool.true_and, Bool.and_eq_false_iff, decide_eq_false_iff_not] at c; omega
        · have := of_decide_eq_false c; omega
        · simp only [Bool.and_eq_false_iff, decide_eq_false_iff_not] at c; omega)
def compactK (n : Nat) (X Y : Nat → Int) (K : KC) : Prop :=
  Br (dupB X Y n) (∀ m, m < n → K (.own 0 0 2 m) [none] [0]) (K (.own 0 0 2 n) [some (.row 24 2 n (farCells X Y))] [0])
theorem cp_law (n : Nat) (X Y : Nat → Int) (hn : n < 9223372036854775808) (h2 : 2 ≤ n) (K : KC) (hK : compactK n X Y K) : runL cpR (fun _ => 0) p8 2 cpId [.own 0 0 2 n] [some (.row 24 2 n (farCells X Y))] K := by
  rw [cp_entry]
  unfold compactK at hK
  refine Br.of (fun c => absurd (of_decide_eq_true c) (by omega)) fun _ => ⟨n + 1, ?_⟩
  refine loop_m (fun k : Nat => cpS n X Y k) (fun k => n - k) (fun k => (1 ≤ k ∧ k ≤ n) ∧ ∀ j, j + 1 < k → sameB X Y j = false) (fun k ⟨⟨h1, h3⟩, h4⟩ Z hZ => ?_) (n + 1) 1 ⟨⟨by omega, by omega⟩, fun j hj => by omega⟩ (by omega)
  show roundE cpE (keepW cpR 1) cpF cpP 0 _ (cpS n X Y k)
  rw [cp_round, wi64_pred h1 (by omega)]
  simp only [Int.toNat_natCast, Nat.zero_add]
  refine Br.of (fun c1 => ?_) fun c1 => ?_
  · have c1' := of_decide_eq_true c1
    have hs : (X k == X (k - 1) && Y k == Y (k - 1)) = sameB X Y (k - 1) := by unfold sameB; rw [Nat.sub_add_cancel h1]
    rw [hs]
    refine Br.of (fun _ => Br.of (fun _ => Br.of (fun _ => Br.of (fun _ => Br.of (fun c2 => Br.of (fun _ => Br.of (fun _ => ?_) fun c => ?_) fun c => ?_) fun c2 => ?_) fun c => ?_) fun c => ?_) fun c => ?_) fun c => ?_
    · refine ⟨n + 1, ?_⟩
      rw [show dupB X Y n = true from anyB_iff.2 ⟨k - 1, by omega, c2⟩] at hK
      exact cp_inner n k hn h1 _ (fun m hm => by
        show afterE cpE (keepW cpR 1) cpF cpP 1 K .ret _
        rw [cp_ret]; exact hK m hm) (n + 1) (k, 1, X, Y) ⟨⟨Nat.le_refl _, by show k < k + 1; omega⟩, Nat.le_refl _, by show 1 ≤ n - k; omega⟩ (by omega)
    · have := of_decide_eq_false c; omega
    · simp only [Bool.and_eq_false_iff, decide_eq_false_iff_not] at c; omega
    · show Z _
      rw [wi64_succ (n := n) (by omega) hn]
      refine hZ (k + 1) ⟨⟨by omega, by omega⟩, fun j hj => ?_⟩ (by omega)
      rcases Nat.lt_or_eq_of_le (Nat.le_of_lt_succ hj) with hj | hj
      · exact h4 j hj
      · rw [show j = k - 1 by omega]; exact c2
    · have := of_decide_eq_false c; omega
    · simp only [Bool.and_eq_false_iff, decide_eq_false_iff_not] at c; omega
    · have := of_decide_eq_false c; omega
    · simp only [Bool.and_eq_false_iff, decide_eq_false_iff_not] at c; omega
  · have c1' := of_decide_eq_false c1
    show afterE cpE (keepW cpR 1) cpF cpP 1 K (.exit 0) (cpS n X Y k)
    rw [cp_after]
    rw [show dupB X Y n = false from anyB_false.2 fun j hj => h4 j (by omega)] at hK
    exact hK
def cCompact : List SV → List (Option SB) → KC → Prop
  | [.own 0 0 2 n], [some (.row 24 2 n' g)], K => (pts g ∧ n' = n ∧ 2 ≤ n) ∧ compactK n (fun i => px (g i)) (fun i => py (g i)) K
  | _, _, _ => False
theorem compact_sat (xs : List SV) (σ : List (Option SB)) : Sat Tryz.prog cpId xs σ (cCompact xs σ) := by
  refine sat_of_ok (fun K hK => ?_) fun hx _ K hK => ?_ <;> unfold cCompact at hK <;> split at hK
  · obtain ⟨⟨_, _, h⟩, hK⟩ := hK
    unfold compactK at hK
    revert hK
    generalize dupB _ _ _ = b
    intro hK
    cases b
    · exact ⟨_, _, _, hK⟩
    · exact ⟨_, _, _, hK 0 (by omega)⟩
  · exact hK.elim
  · rename_i n n' g _
    obtain ⟨⟨hp, rfl, h⟩, hK⟩ := hK
    have := cp_law n' (fun i => px (g i)) (fun i => py (g i)) hx.1 h K hK
    rw [← pts_eq hp] at this
    exact calls_sat (env := tab.env p8 (fun _ => 0) (fun _ => false)) ⟨tab.htt, p8.ok⟩ tab.mixed (fun n => keepW_weaker n cpR) tab.hft 2 _ _ _ K this
  · exact hK.elim
end Go.Proofs.YtbedljhbakdghaaGreatDoor

