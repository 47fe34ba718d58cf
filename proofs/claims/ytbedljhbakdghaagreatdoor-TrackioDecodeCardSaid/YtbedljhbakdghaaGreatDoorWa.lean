import Derived.Test.YtbedljhbakdghaaGreatDoorTm
import Derived.Test.YtbedljhbakdghaaGreatDoorSeWire
namespace Go.Proofs.YtbedljhbakdghaaGreatDoor
open Go.Se
set_option maxRecDepth 100000
theorem wnum_nf (c : TypeId) (L : List Int) (x : Int) (K : KC) : runU 10 u1 3 29 [.ptr 0 0, .int .i64 x] [some (.cells c [.own 1 0 1 L.length]), some (.row 5 1 L.length (bG L))] K =
    lowK (fun n g => K (.tup []) [some (.cells c [.own 2 0 1 n]), none, some (.row 5 1 n g)] [0, 1]) 8 (IntKind.u64.wrap x) L.length (bG L) := by kernel_rfl
theorem wcount_nf (c : TypeId) (L : List Int) (x : Int) (K : KC) : runU 10 u1 3 17 [.ptr 0 0, .int .i64 x] [some (.cells c [.own 1 0 1 L.length]), some (.row 5 1 L.length (bG L))] K =
    lowK (fun n g => K (.tup []) [some (.cells c [.own 2 0 1 n]), none, some (.row 5 1 n g)] [0, 1]) 2 (IntKind.u64.wrap x) L.length (bG L) := by kernel_rfl
theorem wflag_nf (c : TypeId) (L : List Int) (x : Bool) (K : KC) : runU 10 u1 3 71 [.ptr 0 0, .bool x] [some (.cells c [.own 1 0 1 L.length]), some (.row 5 1 L.length (bG L))] K =
  (Br (x) (Br (decide ((L.length + 1) * 1 ≤ 1099511627776) && decide (L.length + 1 < 9223372036854775808) && decide (L.length = L.length)) (K (SV.tup []) [some (SB.cells c [SV.own 2 0 1 (L.length + 1)]), none, some (SB.row 5 1 (L.length + 1) (rowPut L.length [SV.int .u8 1] (bG L)))] [0, 1]) (False)) (Br (decide ((L.length + 1) * 1 ≤ 1099511627776) && decide (L.length + 1 < 9223372036854775808) && decide (L.length = L.length)) (K (SV.tup []) [some (SB.cells c [SV.own 2 0 1 (L.length + 1)]), none, some (SB.row 5 1 (L.length + 1) (rowPut L.length [SV.int .u8 0] (bG L)))] [0, 1]) (False))) := by kernel_rfl
def cWNum : List SV → List (Option SB) → KC → Prop := cW 5 (encI 8)
def cWCount : List SV → List (Option SB) → KC → Prop := cW 5 (encI 2)
def cWFlag : List SV → List (Option SB) → KC → Prop := cW 5 encB
theorem wnum_sat (xs : List SV) (σ : List (Option SB)) : Sat Tryz.prog 29 xs σ (cWNum xs σ) :=
  cW_sat (fun xs M c L henc hl => by
    unfold encI at henc
    split at henc
    · cases henc
      rw [le_len] at hl ⊢
      exact runU_ok 10 u1 3 fun _ _ K hK => by rw [wnum_nf, wrap_wd]; exact lowK_law 8 _ L hl hK
    · cases henc) xs σ
theorem wcount_sat (xs : List SV) (σ : List (Option SB)) : Sat Tryz.prog 17 xs σ (cWCount xs σ) :=
  cW_sat (fun xs M c L henc hl => by
    unfold encI at henc
    split at henc
    · cases henc
      rw [le_len] at hl ⊢
      exact runU_ok 10 u1 3 fun _ _ K hK => by rw [wcount_nf, wrap_wd]; exact lowK_law 2 _ L hl hK
    · cases henc) xs σ
theorem wflag_sat (xs : List SV) (σ : List (Option SB)) : Sat Tryz.prog 71 xs σ (cWFlag xs σ) :=
  cW_sat (fun xs M c L henc hl => by
    unfold encB at henc
    split at henc
    · rename_i b
      cases henc
      have hl : L.length + 1 ≤ 1000000000 := hl
      exact runU_ok 10 u1 3 fun _ _ K hK => by
        rw [wflag_nf]
        have hK : K (.tup []) [some (.cells c [.own 2 0 1 (L.length + 1)]), none, some (.row 5 1 (L.length + 1) (bG (L ++ [bif b then 1 else 0])))] [0, 1] := hK
        refine Br.of (fun hb => If.mk (by simp; omega) ?_) fun hb => If.mk (by simp; omega) ?_
        · rw [hb] at hK; rw [rowPut_bG rfl]; exact hK
        · rw [hb] at hK; rw [rowPut_bG rfl]; exact hK
    · cases henc) xs σ
noncomputable def w1 : Know Tryz.prog := (((u1).add 29 cWNum wnum_sat).add 17 cWCount wcount_sat).add 71 cWFlag wflag_sat
theorem wfx_nf (c : TypeId) (L : List Int) (x : Int) (K : KC) : run w1 3 18 [.ptr 0 0, .int .i64 x] [some (.cells c [.own 1 0 1 L.length]), some (.row 5 1 L.length (bG L))] K =
  ((∀ (i : Nat), i < L.length → isByte (bG L i) = true) ∧ (Br (decide (L.length = L.length) && decide (L.length + (le 8 (wd x)).length ≤ 1000000000)) (K (SV.tup []) [some (SB.cells c [SV.own 2 0 1 (L.length + (le 8 (wd x)).length)]), none, some (SB.row 5 1 (L.length + (le 8 (wd x)).length) (bG (rowB L.length (bG L) ++ le 8 (wd x))))] [1, 0]) (False))) := by kernel_rfl
def cWFx : List SV → List (Option SB) → KC → Prop := cW 5 (encI 8)
theorem wfx_sat (xs : List SV) (σ : List (Option SB)) : Sat Tryz.prog 18 xs σ (cWFx xs σ) :=
  cW_sat (fun xs M c L henc hl => by
    unfold encI at henc
    split at henc
    · cases henc
      simp only [le_len, List.length_append, List.length_cons, List.length_nil] at hl
      refine runL_ok [] (fun _ => 0) w1 3 (fun p hp => by simp at hp ⊢; omega) fun _ _ K hK => ?_
      show run w1 3 18 _ _ K
      rw [wfx_nf]
      simp only [rowB_self, ← List.length_append]
      refine wgo (by simp [le_len, ptB]; omega) ?_
      simp only [le_len, List.append_assoc, List.length_append, List.length_cons, List.length_nil, Nat.add_assoc, Nat.reduceAdd, List.cons_append, List.nil_append] at hK ⊢
      exact hK _ (by decide)
    · cases henc) xs σ
noncomputable def w2 : Know Tryz.prog := (w1).add 18 cWFx wfx_sat
theorem wplace_nf (c : TypeId) (L : List Int) (x y : Int) (K : KC) : run w2 3 19 [.ptr 0 0, .agg [.int .i64 x, .int .i64 y]] [some (.cells c [.own 1 0 1 L.length]), some (.row 5 1 L.length (bG L))] K =
  ((∀ (i : Nat), i < L.length → isByte (bG L i) = true) ∧ (Br (decide (L.length = L.length) && decide (L.length + (le 8 (wd x)).length ≤ 1000000000)) ((∀ (i : Nat), i < L.length + (le 8 (wd x)).length → isByte (bG (rowB L.length (bG L) ++ le 8 (wd x)) i) = true) ∧ (Br (decide (L.length + (le 8 (wd x)).length = L.length + (le 8 (wd x)).length) && decide (L.length + (le 8 (wd x)).length + (le 8 (wd y)).length ≤ 1000000000)) (K (SV.tup []) [some (SB.cells c [SV.own 2 0 1 (L.length + (le 8 (wd x)).length + (le 8 (wd y)).length)]), none, some (SB.row 5 1 (L.length + (le 8 (wd x)).length + (le 8 (wd y)).length) (bG (rowB (L.length + (le 8 (wd x)).length) (bG (rowB L.length (bG L) ++ le 8 (wd x))) ++ le 8 (wd y))))] [1, 0]) (False))) (False))) := by kernel_rfl
def cWPlace : List SV → List (Option SB) → KC → Prop := cW 5 encP
theorem wplace_sat (xs : List SV) (σ : List (Option SB)) : Sat Tryz.prog 19 xs σ (cWPlace xs σ) :=
  cW_sat (fun xs M c L henc hl => by
    unfold encP at henc
    split at henc
    · cases henc
      simp only [ptB, le_len, List.length_append, List.length_cons, List.length_nil] at hl
      refine runL_ok [] (fun _ => 0) w2 3 (fun p hp => by simp at hp ⊢; omega) fun _ _ K hK => ?_
      show run w2 3 19 _ _ K
      rw [wplace_nf]
      simp only [rowB_self, ← List.length_append]
      refine wgo (by simp [le_len, ptB]; omega) ?_
      refine wgo (by simp [le_len, ptB]; omega) ?_
      simp only [ptB, le_len, List.append_assoc, List.length_append, List.length_cons, List.length_nil, Nat.add_assoc, Nat.reduceAdd, List.cons_append, List.nil_append] at hK ⊢
      exact hK _ (by decide)
    · cases henc) xs σ
theorem wkind_nf (c : TypeId) (L : List Int) (g d : Int) (o : Bool) (K : KC) : run w2 3 23 [.ptr 0 0, .agg [.int .i64 g, .int .i64 d, .bool o]] [some (.cells c [.own 1 0 1 L.length]), some (.row 5 1 L.length (bG L))] K =
  ((∀ (i : Nat), i < L.length → isByte (bG L i) = true) ∧ (Br (decide (L.length = L.length) && decide (L.length + (le 8 (wd g)).length ≤ 1000000000)) ((∀ (i : Nat), i < L.length + (le 8 (wd g)).length → isByte (bG (rowB L.length (bG L) ++ le 8 (wd g)) i) = true) ∧ (Br (decide (L.length + (le 8 (wd g)).length = L.length + (le 8 (wd g)).length) && decide (L.length + (le 8 (wd g)).length + (le 8 (wd d)).length ≤ 1000000000)) ((∀ (i : Nat), i < L.length + (le 8 (wd g)).length + (le 8 (wd d)).length → isByte (bG (rowB (L.length + (le 8 (wd g)).length) (bG (rowB L.length (bG L) ++ le 8 (wd g))) ++ le 8 (wd d)) i) = true) ∧ (Br (decide (L.length + (le 8 (wd g)).length + (le 8 (wd d)).length = L.length + (le 8 (wd g)).length + (le 8 (wd d)).length) && decide (L.length + (le 8 (wd g)).length + (le 8 (wd d)).length + [bif o then 1 else 0].length ≤ 1000000000)) (K (SV.tup []) [some (SB.cells c [SV.own 2 0 1 (L.length + (le 8 (wd g)).length + (le 8 (wd d)).length + [bif o then 1 else 0].length)]), none, some (SB.row 5 1 (L.length + (le 8 (wd g)).length + (le 8 (wd d)).length + [bif o then 1 else 0].length) (bG (rowB (L.length + (le 8 (wd g)).length + (le 8 (wd d)).length) (bG (rowB (L.length + (le 8 (wd g)).length) (bG (rowB L.length (bG L) ++ le 8 (wd g))) ++ le 8 (wd d))) ++ [bif o then 1 else 0])))] [1, 0]) (False))) (False))) (False))) := by kernel_rfl
def cWKind : List SV → List (Option SB) → KC → Prop := cW 5 encK
theorem wkind_sat (xs : List SV) (σ : List (Option SB)) : Sat Tryz.prog 23 xs σ (cWKind xs σ) :=
  cW_sat (fun xs M c L henc hl => by
    unfold encK at henc
    split at henc
    · cases henc
      simp only [kindB, flB, le_len, List.length_append, List.length_cons, List.length_nil] at hl
      refine runL_ok [] (fun _ => 0) w2 3 (fun p hp => by simp at hp ⊢; omega) fun _ _ K hK => ?_
      show run w2 3 23 _ _ K
      rw [wkind_nf]
      simp only [rowB_self, ← List.length_append]
      refine wgo (by simp [le_len, ptB]; omega) ?_
      refine wgo (by simp [le_len, ptB]; omega) ?_
      refine wgo (by simp [le_len, ptB]; omega) ?_
      simp only [kindB, flB, le_len, List.append_assoc, List.length_append, List.length_cons, List.length_nil, Nat.add_assoc, Nat.reduceAdd, List.cons_append, List.nil_append] at hK ⊢
      exact hK _ (by decide)
    · cases henc) xs σ
noncomputable def w3 : Know Tryz.prog := ((w2).add 19 cWPlace wplace_sat).add 23 cWKind wkind_sat
theorem wgate_nf (c : TypeId) (L : List Int) (a b e d : Int) (o : Bool) (K : KC) : run w3 3 28 [.ptr 0 0, .agg [.int .i64 a, .int .i64 b, .int .i64 e, .int .i64 d, .bool o]] [some (.cells c [.own 1 0 1 L.length]), some (.row 5 1 L.length (bG L))] K =
  ((∀ (i : Nat), i < L.length → isByte (bG L i) = true) ∧ (Br (decide (L.length = L.length) && decide (L.length + (ptB a b).length ≤ 1000000000)) ((∀ (i : Nat), i < L.length + (ptB a b).length → isByte (bG (rowB L.length (bG L) ++ ptB a b) i) = true) ∧ (Br (decide (L.length + (ptB a b).length = L.length + (ptB a b).length) && decide (L.length + (ptB a b).length + (ptB e d).length ≤ 1000000000)) ((∀ (i : Nat), i < L.length + (ptB a b).length + (ptB e d).length → isByte (bG (rowB (L.length + (ptB a b).length) (bG (rowB L.length (bG L) ++ ptB a b)) ++ ptB e d) i) = true) ∧ (Br (decide (L.length + (ptB a b).length + (ptB e d).length = L.length + (ptB a b).length + (ptB e d).length) && decide (L.length + (ptB a b).length + (ptB e d).length + [bif o then 1 else 0].length ≤ 1000000000)) (K (SV.tup []) [some (SB.cells c [SV.own 2 0 1 (L.length + (ptB a b).length + (ptB e d).length + [bif o then 1 else 0].length)]), none, some (SB.row 5 1 (L.length + (ptB a b).length + (ptB e d).length + [bif o then 1 else 0].length) (bG (rowB (L.length + (ptB a b).length + (ptB e d).length) (bG (rowB (L.length + (ptB a b).length) (bG (rowB L.length (bG L) ++ ptB a b)) ++ ptB e d)) ++ [bif o then 1 else 0])))] [1, 0]) (False))) (False))) (False))) := by kernel_rfl
def cWGate : List SV → List (Option SB) → KC → Prop := cW 5 encG
theorem wgate_sat (xs : List SV) (σ : List (Option SB)) : Sat Tryz.prog 28 xs σ (cWGate xs σ) :=
  cW_sat (fun xs M c L henc hl => by
    unfold encG at henc
    split at henc
    · cases henc
      simp only [gateB, ptB, flB, le_len, List.length_append, List.length_cons, List.length_nil] at hl
      refine runL_ok [] (fun _ => 0) w3 3 (fun p hp => by simp at hp ⊢; omega) fun _ _ K hK => ?_
      show run w3 3 28 _ _ K
      rw [wgate_nf]
      simp only [rowB_self, ← List.length_append]
      refine wgo (by simp [le_len, ptB]; omega) ?_
      refine wgo (by simp [le_len, ptB]; omega) ?_
      refine wgo (by simp [le_len, ptB]; omega) ?_
      simp only [gateB, ptB, flB, le_len, List.append_assoc, List.length_append, List.length_cons, List.length_nil, Nat.add_assoc, Nat.reduceAdd, List.cons_append, List.nil_append] at hK ⊢
      exact hK _ (by decide)
    · cases henc) xs σ
noncomputable def w4 : Know Tryz.prog := (w3).add 28 cWGate wgate_sat
end Go.Proofs.YtbedljhbakdghaaGreatDoor

namespace Go.Proofs.YtbedljhbakdghaaGreatDoor
open Go.Se
set_option maxRecDepth 100000
noncomputable abbrev runP (R : List (Nat × Keep × List ((Nat × List Nat) × Nat))) (u : Nat → Nat) (B : Know Tryz.prog) (n : Nat) (k : FuncId) (xs : List SV) (σ : List (Option SB)) (K : KC) : Prop :=
  calls (tab.env B u (fun _ => false)) (keepP R) B.dom n k xs σ K
theorem runP_ok (R : List (Nat × Keep × List ((Nat × List Nat) × Nat))) (u : Nat → Nat) (B : Know Tryz.prog) (n : Nat) {k : FuncId} {xs : List SV} {σ : List (Option SB)} {v : SV} {σ' : List (Option SB)} {d : List Nat}
    (hl : ∀ p, p ∈ d → p < σ.length)
    (h : okL xs → okS σ → ∀ K : KC, (∀ d', (∀ p, p ∈ d' → p ∈ d) → K v σ' d') → runP R u B n k xs σ K) : CallOK Tryz.prog k xs σ v σ' d :=
  callOK_of_callsP (R := R) tab B hl fun h1 h2 => h h1 h2 _ fun _ hd => ⟨rfl, rfl, hd⟩
noncomputable abbrev envP (R : List (Nat × Keep × List ((Nat × List Nat) × Nat))) (u : Nat → Nat) (B : Know Tryz.prog) (n : Nat) : Env :=
  { tab.env B u (fun _ => false) with callee := calls (tab.env B u (fun _ => false)) (keepP R) B.dom n }
noncomputable abbrev efxE : Env := envP eachR (fun _ => 0) w4 2
noncomputable abbrev efxF : Func := Tryz.f20
theorem efx_entry (c : TypeId) (L : List Int) (n : Nat) (x : Nat → Int) (K : KC) : runP eachR (fun _ => 0) w4 3 20 [.ro n 1 (oneG x), (.fn (.func 18) [.ptr 0 0] [])] [some (.cells c [.own 1 0 1 L.length]), some (.row 5 1 L.length (bG L))] K =
  (∃ q_, loopE efxE (keepP eachR 2) efxF [1, 0] 0 2 K q_ { tmps := [(1, SV.fn (Fn.func 18) [SV.ptr 0 0] []), (6, SV.ro n 1 (oneG x)), (7, SV.int .i64 (↑n : Int)), (8, SV.int .i64 0)], store := [(0, some (SB.cells c [SV.own 2 0 1 L.length])), (1, none), (2, some (SB.row 5 1 L.length (bG L)))], nxt := 3, dirty := [0, 1, 2, 3], nt := 16 }) := by kernel_rfl
theorem efx_round (c : TypeId) (L : List Int) (n : Nat) (x : Nat → Int) (i : Nat) (K : Ex → St → Prop) : roundE efxE (keepP eachR 2) efxF [1, 0] 0 K (eachS 5 c (.fn (.func 18) [.ptr 0 0] []) 1 (oneG x) n i L) =
  (Br (decide ((↑i : Int) < (↑n : Int))) (Br (decide (0 ≤ (↑i : Int)) && decide ((↑i : Int) < (↑n : Int))) ((∀ (i : Nat), i < L.length → isByte (bG L i) = true) ∧ (Br (decide (L.length = L.length) && decide (L.length + (le 8 (wd (x (↑i : Int).toNat))).length ≤ 1000000000)) (K Ex.normal { tmps := [(1, SV.fn (Fn.func 18) [SV.ptr 0 0] []), (6, SV.ro n 1 (oneG x)), (7, SV.int .i64 (↑n : Int)), (8, SV.int .i64 (IntKind.i64.wrap ((↑i : Int) + 1)))], store := [(0, some (SB.cells c [SV.own 2 0 1 (L.length + (le 8 (wd (x (↑i : Int).toNat))).length)])), (1, none), (2, some (SB.row 5 1 (L.length + (le 8 (wd (x (↑i : Int).toNat))).length) (bG (rowB L.length (bG L) ++ le 8 (wd (x (↑i : Int).toNat))))))], nxt := 3, dirty := [0, 1, 2, 3], nt := 16 }) (False))) (False)) (K (Ex.exit 0) { tmps := [(1, SV.fn (Fn.func 18) [SV.ptr 0 0] []), (6, SV.ro n 1 (oneG x)), (7, SV.int .i64 (↑n : Int)), (8, SV.int .i64 (↑i : Int))], store := [(0, some (SB.cells c [SV.own 2 0 1 L.length])), (1, none), (2, some (SB.row 5 1 L.length (bG L)))], nxt := 3, dirty := [0, 1, 2, 3], nt := 16 })) := by kernel_rfl
theorem efx_after (c : TypeId) (L : List Int) (n : Nat) (x : Nat → Int) (i : Int) (K : KC) : afterE efxE (keepP eachR 2) efxF [1, 0] 2 K (.exit 0) (eachS 5 c (.fn (.func 18) [.ptr 0 0] []) 1 (oneG x) n i L) =
  (K (SV.tup []) [some (SB.cells c [SV.own 2 0 1 L.length]), none, some (SB.row 5 1 L.length (bG L))] [0, 1]) := by kernel_rfl
noncomputable abbrev eintE : Env := envP eachR (fun _ => 0) w4 2
noncomputable abbrev eintF : Func := Tryz.f21
theorem eint_entry (c : TypeId) (L : List Int) (n : Nat) (x : Nat → Int) (K : KC) : runP eachR (fun _ => 0) w4 3 21 [.ro n 1 (oneG x), (.fn (.func 17) [.ptr 0 0] [])] [some (.cells c [.own 1 0 1 L.length]), some (.row 5 1 L.length (bG L))] K =
  (∃ q_, loopE eintE (keepP eachR 2) eintF [1, 0] 0 2 K q_ { tmps := [(1, SV.fn (Fn.func 17) [SV.ptr 0 0] []), (6, SV.ro n 1 (oneG x)), (7, SV.int .i64 (↑n : Int)), (8, SV.int .i64 0)], store := [(0, some (SB.cells c [SV.own 2 0 1 L.length])), (1, none), (2, some (SB.row 5 1 L.length (bG L)))], nxt := 3, dirty := [0, 1, 2, 3], nt := 16 }) := by kernel_rfl
theorem eint_round (c : TypeId) (L : List Int) (n : Nat) (x : Nat → Int) (i : Nat) (K : Ex → St → Prop) : roundE eintE (keepP eachR 2) eintF [1, 0] 0 K (eachS 5 c (.fn (.func 17) [.ptr 0 0] []) 1 (oneG x) n i L) =
  (Br (decide ((↑i : Int) < (↑n : Int))) (Br (decide (0 ≤ (↑i : Int)) && decide ((↑i : Int) < (↑n : Int))) ((∀ (i : Nat), i < L.length → isByte (bG L i) = true) ∧ (Br (decide (L.length = L.length) && decide (L.length + (le 2 (wd (x (↑i : Int).toNat))).length ≤ 1000000000)) (K Ex.normal { tmps := [(1, SV.fn (Fn.func 17) [SV.ptr 0 0] []), (6, SV.ro n 1 (oneG x)), (7, SV.int .i64 (↑n : Int)), (8, SV.int .i64 (IntKind.i64.wrap ((↑i : Int) + 1)))], store := [(0, some (SB.cells c [SV.own 2 0 1 (L.length + (le 2 (wd (x (↑i : Int).toNat))).length)])), (1, none), (2, some (SB.row 5 1 (L.length + (le 2 (wd (x (↑i : Int).toNat))).length) (bG (rowB L.length (bG L) ++ le 2 (wd (x (↑i : Int).toNat))))))], nxt := 3, dirty := [0, 1, 2, 3], nt := 16 }) (False))) (False)) (K (Ex.exit 0) { tmps := [(1, SV.fn (Fn.func 17) [SV.ptr 0 0] []), (6, SV.ro n 1 (oneG x)), (7, SV.int .i64 (↑n : Int)), (8, SV.int .i64 (↑i : Int))], store := [(0, some (SB.cells c [SV.own 2 0 1 L.length])), (1, none), (2, some (SB.row 5 1 L.length (bG L)))], nxt := 3, dirty := [0, 1, 2, 3], nt := 16 })) := by kernel_rfl
theorem eint_after (c : TypeId) (L : List Int) (n : Nat) (x : Nat → Int) (i : Int) (K : KC) : afterE eintE (keepP eachR 2) eintF [1, 0] 2 K (.exit 0) (eachS 5 c (.fn (.func 17) [.ptr 0 0] []) 1 (oneG x) n i L) =
  (K (SV.tup []) [some (SB.cells c [SV.own 2 0 1 L.length]), none, some (SB.row 5 1 L.length (bG L))] [0, 1]) := by kernel_rfl
noncomputable abbrev ekindE : Env := envP eachR (fun _ => 0) w4 2
noncomputable abbrev ekindF : Func := Tryz.f70
theorem ekind_entry (c : TypeId) (L : List Int) (n : Nat) (a b : Nat → Int) (o : Nat → Bool) (K : KC) : runP eachR (fun _ => 0) w4 3 70 [.ro n 3 (kindF a b o), (.fn (.func 23) [.ptr 0 0] [])] [some (.cells c [.own 1 0 1 L.length]), some (.row 5 1 L.length (bG L))] K =
  (∃ q_, loopE ekindE (keepP eachR 2) ekindF [1, 0] 0 2 K q_ { tmps := [(1, SV.fn (Fn.func 23) [SV.ptr 0 0] []), (6, SV.ro n 3 (kindF a b o)), (7, SV.int .i64 (↑n : Int)), (8, SV.int .i64 0)], store := [(0, some (SB.cells c [SV.own 2 0 1 L.length])), (1, none), (2, some (SB.row 5 1 L.length (bG L)))], nxt := 3, dirty := [0, 1, 2, 3], nt := 16 }) := by kernel_rfl
theorem ekind_round (c : TypeId) (L : List Int) (n : Nat) (a b : Nat → Int) (o : Nat → Bool) (i : Nat) (K : Ex → St → Prop) : roundE ekindE (keepP eachR 2) ekindF [1, 0] 0 K (eachS 5 c (.fn (.func 23) [.ptr 0 0] []) 3 (kindF a b o) n i L) =
  (Br (decide ((↑i : Int) < (↑n : Int))) (Br (decide (0 ≤ (↑i : Int)) && decide ((↑i : Int) < (↑n : Int))) ((∀ (i : Nat), i < L.length → isByte (bG L i) = true) ∧ (Br (decide (L.length = L.length) && decide (L.length + (kindB (a (↑i : Int).toNat) (b (↑i : Int).toNat) (o (↑i : Int).toNat)).length ≤ 1000000000)) (K Ex.normal { tmps := [(1, SV.fn (Fn.func 23) [SV.ptr 0 0] []), (6, SV.ro n 3 (kindF a b o)), (7, SV.int .i64 (↑n : Int)), (8, SV.int .i64 (IntKind.i64.wrap ((↑i : Int) + 1)))], store := [(0, some (SB.cells c [SV.own 2 0 1 (L.length + (kindB (a (↑i : Int).toNat) (b (↑i : Int).toNat) (o (↑i : Int).toNat)).length)])), (1, none), (2, some (SB.row 5 1 (L.length + (kindB (a (↑i : Int).toNat) (b (↑i : Int).toNat) (o (↑i : Int).toNat)).length) (bG (rowB L.length (bG L) ++ kindB (a (↑i : Int).toNat) (b (↑i : Int).toNat) (o (↑i : Int).toNat)))))], nxt := 3, dirty := [0, 1, 2, 3], nt := 16 }) (False))) (False)) (K (Ex.exit 0) { tmps := [(1, SV.fn (Fn.func 23) [SV.ptr 0 0] []), (6, SV.ro n 3 (kindF a b o)), (7, SV.int .i64 (↑n : Int)), (8, SV.int .i64 (↑i : Int))], store := [(0, some (SB.cells c [SV.own 2 0 1 L.length])), (1, none), (2, some (SB.row 5 1 L.length (bG L)))], nxt := 3, dirty := [0, 1, 2, 3], nt := 16 })) := by kernel_rfl
theorem ekind_after (c : TypeId) (L : List Int) (n : Nat) (a b : Nat → Int) (o : Nat → Bool) (i : Int) (K : KC) : afterE ekindE (keepP eachR 2) ekindF [1, 0] 2 K (.exit 0) (eachS 5 c (.fn (.func 23) [.ptr 0 0] []) 3 (kindF a b o) n i L) =
  (K (SV.tup []) [some (SB.cells c [SV.own 2 0 1 L.length]), none, some (SB.row 5 1 L.length (bG L))] [0, 1]) := by kernel_rfl
noncomputable abbrev eplE : Env := envP eachR (fun _ => 0) w4 2
noncomputable abbrev eplF : Func := Tryz.f72
theorem epl_entry (c : TypeId) (L : List Int) (n : Nat) (x y : Nat → Int) (K : KC) : runP eachR (fun _ => 0) w4 3 72 [.ro n 2 (ptsG x y), (.fn (.func 19) [.ptr 0 0] [])] [some (.cells c [.own 1 0 1 L.length]), some (.row 5 1 L.length (bG L))] K =
  (∃ q_, loopE eplE (keepP eachR 2) eplF [1, 0] 0 2 K q_ { tmps := [(1, SV.fn (Fn.func 19) [SV.ptr 0 0] []), (6, SV.ro n 2 (ptsG x y)), (7, SV.int .i64 (↑n : Int)), (8, SV.int .i64 0)], store := [(0, some (SB.cells c [SV.own 2 0 1 L.length])), (1, none), (2, some (SB.row 5 1 L.length (bG L)))], nxt := 3, dirty := [0, 1, 2, 3], nt := 16 }) := by kernel_rfl
theorem epl_round (c : TypeId) (L : List Int) (n : Nat) (x y : Nat → Int) (i : Nat) (K : Ex → St → Prop) : roundE eplE (keepP eachR 2) eplF [1, 0] 0 K (eachS 5 c (.fn (.func 19) [.ptr 0 0] []) 2 (ptsG x y) n i L) =
  (Br (decide ((↑i : Int) < (↑n : Int))) (Br (decide (0 ≤ (↑i : Int)) && decide ((↑i : Int) < (↑n : Int))) ((∀ (i : Nat), i < L.length → isByte (bG L i) = true) ∧ (Br (decide (L.length = L.length) && decide (L.length + (ptB (x (↑i : Int).toNat) (y (↑i : Int).toNat)).length ≤ 1000000000)) (K Ex.normal { tmps := [(1, SV.fn (Fn.func 19) [SV.ptr 0 0] []), (6, SV.ro n 2 (ptsG x y)), (7, SV.int .i64 (↑n : Int)), (8, SV.int .i64 (IntKind.i64.wrap ((↑i : Int) + 1)))], store := [(0, some (SB.cells c [SV.own 2 0 1 (L.length + (ptB (x (↑i : Int).toNat) (y (↑i : Int).toNat)).length)])), (1, none), (2, some (SB.row 5 1 (L.length + (ptB (x (↑i : Int).toNat) (y (↑i : Int).toNat)).length) (bG (rowB L.length (bG L) ++ ptB (x (↑i : Int).toNat) (y (↑i : Int).toNat)))))], nxt := 3, dirty := [0, 1, 2, 3], nt := 16 }) (False))) (False)) (K (Ex.exit 0) { tmps := [(1, SV.fn (Fn.func 19) [SV.ptr 0 0] []), (6, SV.ro n 2 (ptsG x y)), (7, SV.int .i64 (↑n : Int)), (8, SV.int .i64 (↑i : Int))], store := [(0, some (SB.cells c [SV.own 2 0 1 L.length])), (1, none), (2, some (SB.row 5 1 L.length (bG L)))], nxt := 3, dirty := [0, 1, 2, 3], nt := 16 })) := by kernel_rfl
theorem epl_after (c : TypeId) (L : List Int) (n : Nat) (x y : Nat → Int) (i : Int) (K : KC) : afterE eplE (keepP eachR 2) eplF [1, 0] 2 K (.exit 0) (eachS 5 c (.fn (.func 19) [.ptr 0 0] []) 2 (ptsG x y) n i L) =
  (K (SV.tup []) [some (SB.cells c [SV.own 2 0 1 L.length]), none, some (SB.row 5 1 L.length (bG L))] [0, 1]) := by kernel_rfl
noncomputable abbrev egtE : Env := envP eachR (fun _ => 0) w4 2
noncomputable abbrev egtF : Func := Tryz.f74
theorem egt_entry (c : TypeId) (L : List Int) (n : Nat) (a b e d : Nat → Int) (o : Nat → Bool) (K : KC) : runP eachR (fun _ => 0) w4 3 74 [.ro n 5 (gateF a b e d o), (.fn (.func 28) [.ptr 0 0] [])] [some (.cells c [.own 1 0 1 L.length]), some (.row 5 1 L.length (bG L))] K =
  (∃ q_, loopE egtE (keepP eachR 2) egtF [1, 0] 0 2 K q_ { tmps := [(1, SV.fn (Fn.func 28) [SV.ptr 0 0] []), (6, SV.ro n 5 (gateF a b e d o)), (7, SV.int .i64 (↑n : Int)), (8, SV.int .i64 0)], store := [(0, some (SB.cells c [SV.own 2 0 1 L.length])), (1, none), (2, some (SB.row 5 1 L.length (bG L)))], nxt := 3, dirty := [0, 1, 2, 3], nt := 16 }) := by kernel_rfl
theorem egt_round (c : TypeId) (L : List Int) (n : Nat) (a b e d : Nat → Int) (o : Nat → Bool) (i : Nat) (K : Ex → St → Prop) : roundE egtE (keepP eachR 2) egtF [1, 0] 0 K (eachS 5 c (.fn (.func 28) [.ptr 0 0] []) 5 (gateF a b e d o) n i L) =
  (Br (decide ((↑i : Int) < (↑n : Int))) (Br (decide (0 ≤ (↑i : Int)) && decide ((↑i : Int) < (↑n : Int))) ((∀ (i : Nat), i < L.length → isByte (bG L i) = true) ∧ (Br (decide (L.length = L.length) && decide (L.length + (gateB (a (↑i : Int).toNat) (b (↑i : Int).toNat) (e (↑i : Int).toNat) (d (↑i : Int).toNat) (o (↑i : Int).toNat)).length ≤ 1000000000)) (K Ex.normal { tmps := [(1, SV.fn (Fn.func 28) [SV.ptr 0 0] []), (6, SV.ro n 5 (gateF a b e d o)), (7, SV.int .i64 (↑n : Int)), (8, SV.int .i64 (IntKind.i64.wrap ((↑i : Int) + 1)))], store := [(0, some (SB.cells c [SV.own 2 0 1 (L.length + (gateB (a (↑i : Int).toNat) (b (↑i : Int).toNat) (e (↑i : Int).toNat) (d (↑i : Int).toNat) (o (↑i : Int).toNat)).length)])), (1, none), (2, some (SB.row 5 1 (L.length + (gateB (a (↑i : Int).toNat) (b (↑i : Int).toNat) (e (↑i : Int).toNat) (d (↑i : Int).toNat) (o (↑i : Int).toNat)).length) (bG (rowB L.length (bG L) ++ gateB (a (↑i : Int).toNat) (b (↑i : Int).toNat) (e (↑i : Int).toNat) (d (↑i : Int).toNat) (o (↑i : Int).toNat)))))], nxt := 3, dirty := [0, 1, 2, 3], nt := 16 }) (False))) (False)) (K (Ex.exit 0) { tmps := [(1, SV.fn (Fn.func 28) [SV.ptr 0 0] []), (6, SV.ro n 5 (gateF a b e d o)), (7, SV.int .i64 (↑n : Int)), (8, SV.int .i64 (↑i : Int))], store := [(0, some (SB.cells c [SV.own 2 0 1 L.length])), (1, none), (2, some (SB.row 5 1 L.length (bG L)))], nxt := 3, dirty := [0, 1, 2, 3], nt := 16 })) := by kernel_rfl
theorem egt_after (c : TypeId) (L : List Int) (n : Nat) (a b e d : Nat → Int) (o : Nat → Bool) (i : Int) (K : KC) : afterE egtE (keepP eachR 2) egtF [1, 0] 2 K (.exit 0) (eachS 5 c (.fn (.func 28) [.ptr 0 0] []) 5 (gateF a b e d o) n i L) =
  (K (SV.tup []) [some (SB.cells c [SV.own 2 0 1 L.length]), none, some (SB.row 5 1 L.length (bG L))] [0, 1]) := by kernel_rfl
theorem gates_eq {g : Nat → List SV} (h : gatesS g) : g = gateF (fun i => px (g i)) (fun i => py (g i)) (fun i => at3 (g i)) (fun i => at4 (g i)) (fun i => at5 (g i)) := funext h
theorem efx_law (c : TypeId) (L : List Int) (n : Nat) (x : Nat → Int) (hn : n < 9223372036854775808) (hlen : L.length + (cat (fun i => le 8 (wd (x i))) n).length ≤ 1000000000) (K : KC)
    (hK : K (.tup []) [some (.cells c [.own 2 0 1 (L ++ cat (fun i => le 8 (wd (x i))) n).length]), none, some (.row 5 1 (L ++ cat (fun i => le 8 (wd (x i))) n).length (bG (L ++ cat (fun i => le 8 (wd (x i))) n)))] [0, 1]) :
    runP eachR (fun _ => 0) w4 3 20 [.ro n 1 (oneG x), (.fn (.func 18) [.ptr 0 0] [])] [some (.cells c [.own 1 0 1 L.length]), some (.row 5 1 L.length (bG L))] K := by
  rw [efx_entry]
  refine each_loop (u8 := 5) (c := c) (f := (.fn (.func 18) [.ptr 0 0] [])) (st := 1) (h := oneG x) (fun i => le 8 (wd (x i))) L hn hlen (fun i M K hi hb hK => ?_) (fun M K hK => ?_) ?_
  · rw [efx_round, wi64_succ hi hn]
    simp only [Int.toNat_natCast, rowB_self, ← List.length_append]
    exact each_round hi (by simp [le_len] at hb ⊢; omega) hK
  · rw [efx_round]
    exact Br.of (fun c => lt_t c) fun _ => hK
  · show afterE _ _ _ _ _ _ _ _
    rw [efx_after]
    exact hK
def cEFx : List SV → List (Option SB) → KC → Prop := cEach 5 18 1 ones (fun h i => le 8 (wd (px (h i))))
theorem efx_sat (xs : List SV) (σ : List (Option SB)) : Sat Tryz.prog 20 xs σ (cEFx xs σ) :=
  cEach_sat (fun n h c L hok hl => by
    refine runP_ok eachR (fun _ => 0) w4 3 (fun p hp => by simp at hp ⊢; omega) fun h1 _ K hK => ?_
    have e := ones_eq hok
    rw [e]
    exact efx_law c L n _ h1.1.1 hl K (hK _ fun _ h => h)) xs σ
theorem eint_law (c : TypeId) (L : List Int) (n : Nat) (x : Nat → Int) (hn : n < 9223372036854775808) (hlen : L.length + (cat (fun i => le 2 (wd (x i))) n).length ≤ 1000000000) (K : KC)
    (hK : K (.tup []) [some (.cells c [.own 2 0 1 (L ++ cat (fun i => le 2 (wd (x i))) n).length]), none, some (.row 5 1 (L ++ cat (fun i => le 2 (wd (x i))) n).length (bG (L ++ cat (fun i => le 2 (wd (x i))) n)))] [0, 1]) :
    runP eachR (fun _ => 0) w4 3 21 [.ro n 1 (oneG x), (.fn (.func 17) [.ptr 0 0] [])] [some (.cells c [.own 1 0 1 L.length]), some (.row 5 1 L.length (bG L))] K := by
  rw [eint_entry]
  refine each_loop (u8 := 5) (c := c) (f := (.fn (.func 17) [.ptr 0 0] [])) (st := 1) (h := oneG x) (fun i => le 2 (wd (x i))) L hn hlen (fun i M K hi hb hK => ?_) (fun M K hK => ?_) ?_
  · rw [eint_round, wi64_succ hi hn]
    simp only [Int.toNat_natCast, rowB_self, ← List.length_append]
    exact each_round hi (by simp [le_len] at hb ⊢; omega) hK
  · rw [eint_round]
    exact Br.of (fun c => lt_t c) fun _ => hK
  · show afterE _ _ _ _ _ _ _ _
    rw [eint_after]
    exact hK
def cEInt : List SV → List (Option SB) → KC → Prop := cEach 5 17 1 ones (fun h i => le 2 (wd (px (h i))))
theorem eint_sat (xs : List SV) (σ : List (Option SB)) : Sat Tryz.prog 21 xs σ (cEInt xs σ) :=
  cEach_sat (fun n h c L hok hl => by
    refine runP_ok eachR (fun _ => 0) w4 3 (fun p hp => by simp at hp ⊢; omega) fun h1 _ K hK => ?_
    have e := ones_eq hok
    rw [e]
    exact eint_law c L n _ h1.1.1 hl K (hK _ fun _ h => h)) xs σ
theorem ekind_law (c : TypeId) (L : List Int) (n : Nat) (a b : Nat → Int) (o : Nat → Bool) (hn : n < 9223372036854775808) (hlen : L.length + (cat (fun i => kindB (a i) (b i) (o i)) n).length ≤ 1000000000) (K : KC)
    (hK : K (.tup []) [some (.cells c [.own 2 0 1 (L ++ cat (fun i => kindB (a i) (b i) (o i)) n).length]), none, some (.row 5 1 (L ++ cat (fun i => kindB (a i) (b i) (o i)) n).length (bG (L ++ cat (fun i => kindB (a i) (b i) (o i)) n)))] [0, 1]) :
    runP eachR (fun _ => 0) w4 3 70 [.ro n 3 (kindF a b o), (.fn (.func 23) [.ptr 0 0] [])] [some (.cells c [.own 1 0 1 L.length]), some (.row 5 1 L.length (bG L))] K := by
  rw [ekind_entry]
  refine each_loop (u8 := 5) (c := c) (f := (.fn (.func 23) [.ptr 0 0] [])) (st := 3) (h := kindF a b o) (fun i => kindB (a i) (b i) (o i)) L hn hlen (fun i M K hi hb hK => ?_) (fun M K hK => ?_) ?_
  · rw [ekind_round, wi64_succ hi hn]
    simp only [Int.toNat_natCast, rowB_self, ← List.length_append]
    exact each_round hi (by simp [kindB, flB, le_len] at hb ⊢; omega) hK
  · rw [ekind_round]
    exact Br.of (fun c => lt_t c) fun _ => hK
  · show afterE _ _ _ _ _ _ _ _
    rw [ekind_after]
    exact hK
def cEKind : List SV → List (Option SB) → KC → Prop := cEach 5 23 3 kindsG (fun h i => kindB (px (h i)) (py (h i)) (pz (h i)))
theorem ekind_sat (xs : List SV) (σ : List (Option SB)) : Sat Tryz.prog 70 xs σ (cEKind xs σ) :=
  cEach_sat (fun n h c L hok hl => by
    refine runP_ok eachR (fun _ => 0) w4 3 (fun p hp => by simp at hp ⊢; omega) fun h1 _ K hK => ?_
    have e := kinds_eq hok
    rw [e]
    exact ekind_law c L n _ _ _ h1.1.1 hl K (hK _ fun _ h => h)) xs σ
theorem epl_law (c : TypeId) (L : List Int) (n : Nat) (x y : Nat → Int) (hn : n < 9223372036854775808) (hlen : L.length + (cat (fun i => ptB (x i) (y i)) n).length ≤ 1000000000) (K : KC)
    (hK : K (.tup []) [some (.cells c [.own 2 0 1 (L ++ cat (fun i => ptB (x i) (y i)) n).length]), none, some (.row 5 1 (L ++ cat (fun i => ptB (x i) (y i)) n).length (bG (L ++ cat (fun i => ptB (x i) (y i)) n)))] [0, 1]) :
    runP eachR (fun _ => 0) w4 3 72 [.ro n 2 (ptsG x y), (.fn (.func 19) [.ptr 0 0] [])] [some (.cells c [.own 1 0 1 L.length]), some (.row 5 1 L.length (bG L))] K := by
  rw [epl_entry]
  refine each_loop (u8 := 5) (c := c) (f := (.fn (.func 19) [.ptr 0 0] [])) (st := 2) (h := ptsG x y) (fun i => ptB (x i) (y i)) L hn hlen (fun i M K hi hb hK => ?_) (fun M K hK => ?_) ?_
  · rw [epl_round, wi64_succ hi hn]
    simp only [Int.toNat_natCast, rowB_self, ← List.length_append]
    exact each_round hi (by simp [ptB, le_len] at hb ⊢; omega) hK
  · rw [epl_round]
    exact Br.of (fun c => lt_t c) fun _ => hK
  · show afterE _ _ _ _ _ _ _ _
    rw [epl_after]
    exact hK
def cEPl : List SV → List (Option SB) → KC → Prop := cEach 5 19 2 pts (fun h i => ptB (px (h i)) (py (h i)))
theorem epl_sat (xs : List SV) (σ : List (Option SB)) : Sat Tryz.prog 72 xs σ (cEPl xs σ) :=
  cEach_sat (fun n h c L hok hl => by
    refine runP_ok eachR (fun _ => 0) w4 3 (fun p hp => by simp at hp ⊢; omega) fun h1 _ K hK => ?_
    have e := pts_eq hok
    rw [e]
    exact epl_law c L n _ _ h1.1.1 hl K (hK _ fun _ h => h)) xs σ
theorem egt_law (c : TypeId) (L : List Int) (n : Nat) (a b e d : Nat → Int) (o : Nat → Bool) (hn : n < 9223372036854775808) (hlen : L.length + (cat (fun i => gateB (a i) (b i) (e i) (d i) (o i)) n).length ≤ 1000000000) (K : KC)
    (hK : K (.tup []) [some (.cells c [.own 2 0 1 (L ++ cat (fun i => gateB (a i) (b i) (e i) (d i) (o i)) n).length]), none, some (.row 5 1 (L ++ cat (fun i => gateB (a i) (b i) (e i) (d i) (o i)) n).length (bG (L ++ cat (fun i => gateB (a i) (b i) (e i) (d i) (o i)) n)))] [0, 1]) :
    runP eachR (fun _ => 0) w4 3 74 [.ro n 5 (gateF a b e d o), (.fn (.func 28) [.ptr 0 0] [])] [some (.cells c [.own 1 0 1 L.length]), some (.row 5 1 L.length (bG L))] K := by
  rw [egt_entry]
  refine each_loop (u8 := 5) (c := c) (f := (.fn (.func 28) [.ptr 0 0] [])) (st := 5) (h := gateF a b e d o) (fun i => gateB (a i) (b i) (e i) (d i) (o i)) L hn hlen (fun i M K hi hb hK => ?_) (fun M K hK => ?_) ?_
  · rw [egt_round, wi64_succ hi hn]
    simp only [Int.toNat_natCast, rowB_self, ← List.length_append]
    exact each_round hi (by simp [gateB, ptB, flB, le_len] at hb ⊢; omega) hK
  · rw [egt_round]
    exact Br.of (fun c => lt_t c) fun _ => hK
  · show afterE _ _ _ _ _ _ _ _
    rw [egt_after]
    exact hK
def cEGt : List SV → List (Option SB) → KC → Prop := cEach 5 28 5 gatesS (fun h i => gateB (px (h i)) (py (h i)) (at3 (h i)) (at4 (h i)) (at5 (h i)))
theorem egt_sat (xs : List SV) (σ : List (Option SB)) : Sat Tryz.prog 74 xs σ (cEGt xs σ) :=
  cEach_sat (fun n h c L hok hl => by
    refine runP_ok eachR (fun _ => 0) w4 3 (fun p hp => by simp at hp ⊢; omega) fun h1 _ K hK => ?_
    have e := gates_eq hok
    rw [e]
    exact egt_law c L n _ _ _ _ _ h1.1.1 hl K (hK _ fun _ h => h)) xs σ
noncomputable def w5 : Know Tryz.prog := (((((w4).add 20 cEFx efx_sat).add 21 cEInt eint_sat).add 70 cEKind ekind_sat).add 72 cEPl epl_sat).add 74 cEGt egt_sat
end Go.Proofs.YtbedljhbakdghaaGreatDoor

namespace Go.Proofs.YtbedljhbakdghaaGreatDoor
open Go.Se
set_option maxRecDepth 100000
noncomputable abbrev erlE : Env := envP eachR (fun _ => 0) w5 4
noncomputable abbrev erlF : Func := Tryz.f73
theorem erl_entry (c : TypeId) (L : List Int) (n : Nat) (rn : Nat → Nat) (rx ry : Nat → Nat → Int) (K : KC) : runP eachR (fun _ => 0) w5 5 73 [.ro n 1 (railF rn rx ry), (.fn (.func 26) [.ptr 0 0] [])] [some (.cells c [.own 1 0 1 L.length]), some (.row 5 1 L.length (bG L))] K =
  (∃ q_, loopE erlE (keepP eachR 2) erlF [1, 0] 0 2 K q_ { tmps := [(1, SV.fn (Fn.func 26) [SV.ptr 0 0] []), (6, SV.ro n 1 (railF rn rx ry)), (7, SV.int .i64 (↑n : Int)), (8, SV.int .i64 0)], store := [(0, some (SB.cells c [SV.own 2 0 1 L.length])), (1, none), (2, some (SB.row 5 1 L.length (bG L)))], nxt := 3, dirty := [0, 1, 2, 3], nt := 16 }) := by kernel_rfl
theorem erl_round (c : TypeId) (L : List Int) (n : Nat) (rn : Nat → Nat) (rx ry : Nat → Nat → Int) (i : Nat) (K : Ex → St → Prop) : roundE erlE (keepP eachR 2) erlF [1, 0] 0 K (eachS 5 c (.fn (.func 26) [.ptr 0 0] []) 1 (railF rn rx ry) n i L) =
  (Br (decide ((↑i : Int) < (↑n : Int))) (Br (decide (0 ≤ (↑i : Int)) && decide ((↑i : Int) < (↑n : Int))) ((∀ (i : Nat), i < L.length → isByte (bG L i) = true) ∧ (Br (decide (L.length = L.length) && decide (L.length + (le 2 (wd (↑(rn (↑i : Int).toNat) : Int))).length ≤ 1000000000)) ((pts (ptsG (rx (↑i : Int).toNat) (ry (↑i : Int).toNat))) ∧ ((∀ (i_1 : Nat), i_1 < L.length + (le 2 (wd (↑(rn (↑i : Int).toNat) : Int))).length → isByte (bG (rowB L.length (bG L) ++ le 2 (wd (↑(rn (↑i : Int).toNat) : Int))) i_1) = true) ∧ ((L.length + (le 2 (wd (↑(rn (↑i : Int).toNat) : Int))).length + (cat ((fun (h : Nat → List SV) (i : Nat) => ptB (px (h i)) (py (h i))) (ptsG (rx (↑i : Int).toNat) (ry (↑i : Int).toNat))) (rn (↑i : Int).toNat)).length ≤ 1000000000) ∧ ((L.length + (le 2 (wd (↑(rn (↑i : Int).toNat) : Int))).length = L.length + (le 2 (wd (↑(rn (↑i : Int).toNat) : Int))).length) ∧ (K Ex.normal { tmps := [(1, SV.fn (Fn.func 26) [SV.ptr 0 0] []), (6, SV.ro n 1 (railF rn rx ry)), (7, SV.int .i64 (↑n : Int)), (8, SV.int .i64 (IntKind.i64.wrap ((↑i : Int) + 1)))], store := [(0, some (SB.cells c [SV.own 2 0 1 (L.length + (le 2 (wd (↑(rn (↑i : Int).toNat) : Int))).length + (cat ((fun (h : Nat → List SV) (i : Nat) => ptB (px (h i)) (py (h i))) (ptsG (rx (↑i : Int).toNat) (ry (↑i : Int).toNat))) (rn (↑i : Int).toNat)).length)])), (1, none), (2, some (SB.row 5 1 (L.length + (le 2 (wd (↑(rn (↑i : Int).toNat) : Int))).length + (cat ((fun (h : Nat → List SV) (i : Nat) => ptB (px (h i)) (py (h i))) (ptsG (rx (↑i : Int).toNat) (ry (↑i : Int).toNat))) (rn (↑i : Int).toNat)).length) (bG (rowB (L.length + (le 2 (wd (↑(rn (↑i : Int).toNat) : Int))).length) (bG (rowB L.length (bG L) ++ le 2 (wd (↑(rn (↑i : Int).toNat) : Int)))) ++ cat ((fun (h : Nat → List SV) (i : Nat) => ptB (px (h i)) (py (h i))) (ptsG (rx (↑i : Int).toNat) (ry (↑i : Int).toNat))) (rn (↑i : Int).toNat)))))], nxt := 3, dirty := [0, 1, 2, 3], nt := 16 }))))) (False))) (False)) (K (Ex.exit 0) { tmps := [(1, SV.fn (Fn.func 26) [SV.ptr 0 0] []), (6, SV.ro n 1 (railF rn rx ry)), (7, SV.int .i64 (↑n : Int)), (8, SV.int .i64 (↑i : Int))], store := [(0, some (SB.cells c [SV.own 2 0 1 L.length])), (1, none), (2, some (SB.row 5 1 L.length (bG L)))], nxt := 3, dirty := [0, 1, 2, 3], nt := 16 })) := by kernel_rfl
theorem erl_after (c : TypeId) (L : List Int) (n : Nat) (rn : Nat → Nat) (rx ry : Nat → Nat → Int) (i : Int) (K : KC) : afterE erlE (keepP eachR 2) erlF [1, 0] 2 K (.exit 0) (eachS 5 c (.fn (.func 26) [.ptr 0 0] []) 1 (railF rn rx ry) n i L) =
  (K (SV.tup []) [some (SB.cells c [SV.own 2 0 1 L.length]), none, some (SB.row 5 1 L.length (bG L))] [0, 1]) := by kernel_rfl
theorem px_pts (x y : Nat → Int) (i : Nat) : px (ptsG x y i) = x i := rfl
theorem py_pts (x y : Nat → Int) (i : Nat) : py (ptsG x y i) = y i := rfl
def railB (n : Nat) (x y : Nat → Int) : List Int := le 2 (wd n) ++ cat (fun k => ptB (x k) (y k)) n
theorem erl_law (c : TypeId) (L : List Int) (n : Nat) (rn : Nat → Nat) (rx ry : Nat → Nat → Int) (hn : n < 9223372036854775808) (hlen : L.length + (cat (fun i => railB (rn i) (rx i) (ry i)) n).length ≤ 1000000000) (K : KC)
    (hK : K (.tup []) [some (.cells c [.own 2 0 1 (L ++ cat (fun i => railB (rn i) (rx i) (ry i)) n).length]), none, some (.row 5 1 (L ++ cat (fun i => railB (rn i) (rx i) (ry i)) n).length (bG (L ++ cat (fun i => railB (rn i) (rx i) (ry i)) n)))] [0, 1]) :
    runP eachR (fun _ => 0) w5 5 73 [.ro n 1 (railF rn rx ry), (.fn (.func 26) [.ptr 0 0] [])] [some (.cells c [.own 1 0 1 L.length]), some (.row 5 1 L.length (bG L))] K := by
  rw [erl_entry]
  refine each_loop (u8 := 5) (c := c) (f := (.fn (.func 26) [.ptr 0 0] [])) (st := 1) (h := railF rn rx ry) (fun i => railB (rn i) (rx i) (ry i)) L hn hlen (fun i M K hi hb hK => ?_) (fun M K hK => ?_) ?_
  · rw [erl_round, wi64_succ hi hn]
    simp only [Int.toNat_natCast, rowB_self, ← List.length_append, px_pts, py_pts]
    simp only [railB, ← List.append_assoc] at hb hK
    have hb' := hb
    simp only [List.length_append] at hb'
    refine each_round hi (by simp [le_len] at hb' ⊢; omega) ⟨fun _ => rfl, fun _ _ => rfl, ?_, ?_⟩
    · simp only [List.length_append] at hb' ⊢; omega
    · first | exact ⟨rfl, hK⟩ | exact ⟨trivial, hK⟩
  · rw [erl_round]
    exact Br.of (fun c => lt_t c) fun _ => hK
  · show afterE _ _ _ _ _ _ _ _
    rw [erl_after]
    exact hK
theorem rails_eq {g : Nat → List SV} (h : railsS g) : g = railF (fun i => rlen (g i)) (fun i k => px (rget (g i) k)) (fun i k => py (rget (g i) k)) := funext h
def cERl : List SV → List (Option SB) → KC → Prop := cEach 5 26 1 railsS (fun h i => railB (rlen (h i)) (fun k => px (rget (h i) k)) (fun k => py (rget (h i) k)))
theorem erl_sat (xs : List SV) (σ : List (Option SB)) : Sat Tryz.prog 73 xs σ (cERl xs σ) :=
  cEach_sat (fun n h c L hok hl => by
    refine runP_ok eachR (fun _ => 0) w5 5 (fun p hp => by simp at hp ⊢; omega) fun h1 _ K hK => ?_
    have e := rails_eq hok
    rw [e]
    exact erl_law c L n _ _ _ h1.1.1 hl K (hK _ fun _ h => h)) xs σ
noncomputable def w6 : Know Tryz.prog := ((w5).add 73 cERl erl_sat).add 14 cTRight tright_sat
end Go.Proofs.YtbedljhbakdghaaGreatDoor

