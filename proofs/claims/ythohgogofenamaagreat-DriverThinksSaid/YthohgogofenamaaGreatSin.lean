import Derived.Test.YthohgogofenamaaGreatTable
import Derived.Test.YthohgogofenamaaGreatSeTrig
namespace Go.Proofs.YthohgogofenamaaGreat
open Go.Se
set_option maxRecDepth 100000
theorem sin_entry (t : Int) (K : KC) : run k11 2 68 [.int .u32 t] [] K = sinW t K := by kernel_rfl
theorem sin_ok (t : Int) : CallOK Tryz.prog 68 [.int .u32 t] [] (.int .i64 (sinF t)) [] [] :=
  run_ok k11 2 fun ⟨ht, _⟩ _ K hK => by
    rw [sin_entry]
    exact sinW_law ht.1 ht.2 hK
def cSin : List SV → List (Option SB) → Out
  | [.int .u32 t], [] => some (.int .i64 (sinF t), [], [])
  | _, _ => none
noncomputable def k12 : Know Tryz.prog := k11.add 68 (one cSin) (one_sat fun xs σ v σ' d h => by
    unfold cSin at h; split at h <;> cases h; exact sin_ok _)
theorem cos_ok (t : Int) : CallOK Tryz.prog 67 [.int .u32 t] [] (.int .i64 (cosF t)) [] [] :=
  run_ok k12 2 fun _ _ K hK => by
    have e : ∀ K, run k12 2 67 [.int .u32 t] [] K = K (.int .i64 (sinF (IntKind.u32.wrap (t + 1073741824)))) [] [] := fun K => by kernel_rfl
    rw [e, wu32]
    exact hK
def cCos : List SV → List (Option SB) → Out
  | [.int .u32 t], [] => some (.int .i64 (cosF t), [], [])
  | _, _ => none
noncomputable def k13 : Know Tryz.prog := ((k12.add 67 (one cCos) (one_sat fun xs σ v σ' d h => by
    unfold cCos at h; split at h <;> cases h; exact cos_ok _)))
end Go.Proofs.YthohgogofenamaaGreat

namespace Go.Proofs.YthohgogofenamaaGreat
open Go.Se
set_option maxRecDepth 100000
def firstR : List (Nat × Keep) := [(0, ⟨[5, 6, 0, 1, 4], [], [], 0⟩)]
def firstS (x y lo hi : Int) : St := ⟨[(5, .int .u32 lo), (6, .int .u32 hi), (0, .int .i64 x), (1, .int .i64 y), (4, .int .u32 0)], [], 0, [], 32⟩
def midT (lo hi : Int) : Int := IntKind.u32.wrap (lo + IntKind.u32.wrap ((IntKind.u32.wrap (IntKind.u32.wrap (hi - lo) + 1)).tdiv 2))
abbrev firstPath : List Nat := [1, 1, 0, 0]
noncomputable abbrev firstE : Env := envL firstR (fun _ => 0) k13 1
theorem first_entry (K : KC) (x y : Int) : runL firstR (fun _ => 0) k13 2 44 [.int .i64 x, .int .i64 y] [] K =
    ∃ n, loopE firstE (keepW firstR 0) Tryz.f44 firstPath 0 0 K n (firstS x y 0 1073741824) := by kernel_rfl
theorem first_round (K : Ex → St → Prop) (x y lo hi : Int) : roundE firstE (keepW firstR 0) Tryz.f44 firstPath 0 K (firstS x y lo hi) =
    Br (decide (lo < hi)) ((fun m => Br (decide (cmpI (wv (y * cosF m / 18446744073709551616) (y * cosF m % 18446744073709551616)) (wv (x * sinF m / 18446744073709551616) (x * sinF m % 18446744073709551616)) ≥ 0))
      (K .normal (firstS x y m hi)) (K .normal (firstS x y lo (IntKind.u32.wrap (m - 1))))) (midT lo hi)) (K (.exit 0) (firstS x y lo hi)) := by kernel_rfl
theorem first_after (K : KC) (x y lo hi : Int) : afterE firstE (keepW firstR 0) Tryz.f44 firstPath 0 K (.exit 0) (firstS x y lo hi) = K (.int .u32 lo) [] [] := by kernel_rfl
theorem first_loop (K : KC) (x y : Int) : ∀ (f : Nat) (lo hi : Int), 0 ≤ lo → lo ≤ hi → hi ≤ 1073741824 → hi - lo < 2 ^ f → K (.int .u32 (firstF x y f lo hi)) [] [] →
    loopE firstE (keepW firstR 0) Tryz.f44 firstPath 0 0 K (f + 1) (firstS x y lo hi)
  | f, lo, hi, h0, h1, h2, h3, hK => by
    rw [loopE_succ, first_round]
    refine Br.of (fun c1 => ?_) fun c1 => ?_
    · have c1' := of_decide_eq_true c1
      cases f with
      | zero => simp at h3; omega
      | succ f =>
        have hp : (2 : Int) ^ (f + 1) = 2 ^ f * 2 := Int.pow_succ 2 f
        rw [hp] at h3
        have hm : midT lo hi = lo + (hi - lo + 1) / 2 := by
          unfold midT
          simp only [wu32]
          rw [show (hi - lo) % 4294967296 = hi - lo by omega, show (hi - lo + 1) % 4294967296 = hi - lo + 1 by omega, Int.tdiv_eq_ediv_of_nonneg (by omega)]
          omega
        show Br _ _ _
        rw [hm, wv_wide, wv_wide, wu32]
        unfold firstF at hK
        rw [c1] at hK
        simp only [cond_true] at hK
        refine Br.of (fun c2 => ?_) fun c2 => ?_
        · rw [show holdsF x y (lo + (hi - lo + 1) / 2) = true from c2] at hK
          exact first_loop K x y f _ hi (by omega) (by omega) h2 (by omega) hK
        · rw [show holdsF x y (lo + (hi - lo + 1) / 2) = false from c2] at hK
          rw [show (lo + (hi - lo + 1) / 2 - 1) % 4294967296 = lo + (hi - lo + 1) / 2 - 1 by omega]
          exact first_loop K x y f lo _ h0 (by omega) (by omega) (by omega) hK
    · show afterE _ _ _ _ _ _ _ _
      rw [first_after]
      cases f with
      | zero => exact hK
      | succ f =>
        unfold firstF at hK
        rw [c1] at hK
        exact hK
theorem first_ok (x y : Int) : CallOK Tryz.prog 44 [.int .i64 x, .int .i64 y] [] (.int .u32 (firstV x y)) [] [] :=
  runL_ok firstR (fun _ => 0) k13 2 (fun _ h => nomatch h) fun _ _ K hK => by
    rw [first_entry]
    exact ⟨32, first_loop K x y 31 0 1073741824 (by omega) (by omega) (by omega) (by decide) (hK [] fun _ h => nomatch h)⟩
def cFirst : List SV → List (Option SB) → Out
  | [.int .i64 x, .int .i64 y], [] => some (.int .u32 (firstV x y), [], [])
  | _, _ => none
noncomputable def k14 : Know Tryz.prog := k13.add 44 (one cFirst) (one_sat fun xs σ v σ' d h => by
    unfold cFirst at h; split at h <;> cases h; exact first_ok _ _)
end Go.Proofs.YthohgogofenamaaGreat

namespace Go.Proofs.YthohgogofenamaaGreat
open Go.Se
set_option maxRecDepth 100000
theorem tow_entry (x y : Int) (K : KC) : runU 5 k14 2 16 [.int .i64 x, .int .i64 y] [] K = twP 5 (capF x) (capF y) 0 K := by kernel_rfl
theorem tow_ok (x y : Int) : CallOK Tryz.prog 16 [.int .i64 x, .int .i64 y] [] (.int .u32 (towV x y)) [] [] :=
  runU_ok 5 k14 2 fun ⟨hx, hy, _⟩ _ K hK => by
    have hx' : -9223372036854775808 ≤ x ∧ x ≤ 9223372036854775807 := hx
    have hy' : -9223372036854775808 ≤ y ∧ y ≤ 9223372036854775807 := hy
    rw [tow_entry]
    have h1 : -9223372036854775807 ≤ capF x ∧ capF x ≤ 9223372036854775807 := by unfold capF; split <;> omega
    have h2 : -9223372036854775807 ≤ capF y ∧ capF y ≤ 9223372036854775807 := by unfold capF; split <;> omega
    refine tw_law 5 _ _ 0 ?_ h1.1 h1.2 h2.1 h2.2 hK
    unfold rankT
    (repeat' split) <;> omega
def cTow : List SV → List (Option SB) → Out
  | [.int .i64 x, .int .i64 y], [] => some (.int .u32 (towV x y), [], [])
  | _, _ => none
noncomputable def k15 : Know Tryz.prog := k14.add 16 (one cTow) (one_sat fun xs σ v σ' d h => by
    unfold cTow at h; split at h <;> cases h; exact tow_ok _ _)
end Go.Proofs.YthohgogofenamaaGreat

namespace Go.Proofs.YthohgogofenamaaGreat
open Go.Se
set_option maxRecDepth 100000
theorem far_ok (x y : Int) : CallOK Tryz.prog 31 [.agg [.int .i64 x, .int .i64 y]] [] (.bool (farB x y)) [] [] :=
  run_ok k15 2 fun _ _ K hK => by
    have e : ∀ K, run k15 2 31 [.agg [.int .i64 x, .int .i64 y]] [] K =
      Br (decide ((if y > x then y else x) > 281474976710656)) (K (.bool true) [] []) (K (.bool (decide ((if y < x then y else x) < -281474976710656))) [] []) := fun K => by kernel_rfl
    rw [e]
    unfold farB at hK
    refine Br.of (fun c => ?_) fun c => ?_ <;> rw [c] at hK <;> exact hK
def cFar : List SV → List (Option SB) → Out
  | [.agg [.int .i64 x, .int .i64 y]], [] => some (.bool (farB x y), [], [])
  | _, _ => none
noncomputable def k16 : Know Tryz.prog := k15.add 31 (one cFar) (one_sat fun xs σ v σ' d h => by
    unfold cFar at h; split at h <;> cases h; exact far_ok _ _)

abbrev idxF : FuncId := 59
def idxR : List (Nat × Keep) := [(0, ⟨[4, 0, 1, 7, 8], [], [], 0⟩)]
def idxS (X Y : Nat → Int) (len : Nat) (r i : Int) : St := ⟨[(4, .int .i64 r), (0, .ro len 2 (farCells X Y)), (1, .fn (.func 31) [] []), (7, .int .i64 len), (8, .int .i64 i)], [], 0, [], 19⟩
abbrev idxPath : List Nat := [1, 0, 1, 0]
noncomputable abbrev idxE : Env := envL idxR (fun _ => 0) k16 1
theorem idx_entry (K : KC) (X Y : Nat → Int) (len : Nat) : runL idxR (fun _ => 0) k16 2 idxF [.ro len 2 (farCells X Y), .fn (.func 31) [] []] [] K =
    ∃ n, loopE idxE (keepW idxR 0) Tryz.f59 idxPath 0 0 K n (idxS X Y len 0 0) := by kernel_rfl
theorem idx_round (K : Ex → St → Prop) (X Y : Nat → Int) (len i : Nat) : roundE idxE (keepW idxR 0) Tryz.f59 idxPath 0 K (idxS X Y len 0 i) =
    Br (decide ((i : Int) < len)) (If (decide (0 ≤ (i : Int)) && decide ((i : Int) < len)) (Br (farB (X i) (Y i)) (K .ret (idxS X Y len i i)) (K .normal (idxS X Y len 0 (IntKind.i64.wrap (i + 1))))))
      (K (.exit 0) (idxS X Y len 0 i)) := by kernel_rfl
theorem idx_ret (K : KC) (X Y : Nat → Int) (len : Nat) (r i : Int) : afterE idxE (keepW idxR 0) Tryz.f59 idxPath 0 K .ret (idxS X Y len r i) = K (.int .i64 r) [] [] := by kernel_rfl
theorem idx_after (K : KC) (X Y : Nat → Int) (len : Nat) (r i : Int) : afterE idxE (keepW idxR 0) Tryz.f59 idxPath 0 K (.exit 0) (idxS X Y len r i) = K (.int .i64 (-1)) [] [] := by kernel_rfl
theorem idx_loop (K : KC) (X Y : Nat → Int) (len : Nat) (hlen : len < 9223372036854775808) : ∀ (f i : Nat), i + f = len → K (.int .i64 (farFrom X Y f i)) [] [] →
    loopE idxE (keepW idxR 0) Tryz.f59 idxPath 0 0 K (f + 1) (idxS X Y len 0 i)
  | f, i, h, hK => by
    rw [loopE_succ, idx_round]
    refine Br.of (fun c1 => If.mk ?_ (Br.of (fun c2 => ?_) fun c2 => ?_)) fun c1 => ?_
    · have := of_decide_eq_true c1
      simp only [Bool.and_eq_true, decide_eq_true_eq]; omega
    · have c1' := of_decide_eq_true c1
      show afterE _ _ _ _ _ _ _ _
      rw [idx_ret]
      cases f with
      | zero => omega
      | succ f => unfold farFrom at hK; rw [c2] at hK; exact hK
    · have c1' := of_decide_eq_true c1
      cases f with
      | zero => omega
      | succ f =>
        unfold farFrom at hK; rw [c2] at hK
        rw [wi64, show ((i : Int) + 1 + 9223372036854775808) % 18446744073709551616 - 9223372036854775808 = ((i + 1 : Nat) : Int) by omega]
        exact idx_loop K X Y len hlen f (i + 1) (by omega) hK
    · have c1' := of_decide_eq_false c1
      show afterE _ _ _ _ _ _ _ _
      rw [idx_after]
      cases f with
      | zero => exact hK
      | succ f => omega
theorem idx_ok (X Y : Nat → Int) (len : Nat) : CallOK Tryz.prog idxF [.ro len 2 (farCells X Y), .fn (.func 31) [] []] [] (.int .i64 (farFrom X Y len 0)) [] [] :=
  runL_ok idxR (fun _ => 0) k16 2 (fun _ h => nomatch h) fun ⟨⟨hl, _⟩, _⟩ _ K hK => by
    rw [idx_entry]
    exact ⟨len + 1, idx_loop K X Y len hl len 0 (by omega) (hK [] fun _ h => nomatch h)⟩
def cIdx : List SV → List (Option SB) → KC → Prop
  | [.ro len 2 g, .fn (.func 31) [] []], [], K => pts g ∧ K (.int .i64 (farFrom (fun i => px (g i)) (fun i => py (g i)) len 0)) [] []
  | _, _, _ => False
theorem idx_sat (xs : List SV) (σ : List (Option SB)) : Sat Tryz.prog idxF xs σ (cIdx xs σ) := by
  intro K hK
  unfold cIdx at hK
  split at hK
  · rename_i len get
    obtain ⟨hp, hK⟩ := hK
    refine ⟨_, _, _, hK, ?_⟩
    have := idx_ok (fun i => px (get i)) (fun i => py (get i)) len
    rw [← pts_eq hp] at this
    exact this
  · exact hK.elim
noncomputable def k17 : Know Tryz.prog := k16.add idxF cIdx idx_sat
end Go.Proofs.YthohgogofenamaaGreat

namespace Go.Proofs.YthohgogofenamaaGreat
open Go.Se
set_option maxRecDepth 100000
abbrev nearId : FuncId := 11
def nearR : List (Nat × Keep) := [(0, ⟨[5, 3, 6, 20, 21, 22, 4], [0, 1], [1, 2, 3], 2⟩)]
def nearS (X Y : Nat → Int) (a b : Int) (len : Nat) (i c B : Int) : St :=
  ⟨[(5, .int .i64 c), (3, .ptr 0 0), (6, .ptr 1 0), (20, .ro len 2 (farCells X Y)), (21, .int .i64 len), (22, .int .i64 i), (4, .int .i64 0)],
    [(0, some (.cells 70 [.int .i64 a, .int .i64 b])), (1, some (.cells 95 [.int .i64 (B / 18446744073709551616), .int .u64 (B % 18446744073709551616)]))], 2, [1, 2, 3], 59⟩
abbrev nearPath : List Nat := [1, 1, 1, 0, 1, 0]
noncomputable abbrev nearE : Env := envL nearR (fun _ => 0) k17 2
theorem near_entry (K : KC) (X Y : Nat → Int) (a b : Int) (len : Nat) : runL nearR (fun _ => 0) k17 3 nearId [.ro len 2 (farCells X Y), .agg [.int .i64 a, .int .i64 b]] [] K =
    Br (farB a b) (K (.int .i64 (-1)) [] []) (pts (farCells X Y) ∧ Br (decide (farFrom X Y len 0 ≥ 0)) (K (.int .i64 (-1)) [] [])
      (∃ n, loopE nearE (keepW nearR 0) Tryz.f11 nearPath 0 0 K n (nearS X Y a b len 0 (-1) 0))) := by kernel_rfl
def accD (u v : Int) : Int := bif in128 (wv (u / 18446744073709551616) (u % 18446744073709551616) + wv (v / 18446744073709551616) (v % 18446744073709551616)) then wv (u / 18446744073709551616) (u % 18446744073709551616) + wv (v / 18446744073709551616) (v % 18446744073709551616) else 0
theorem near_round (K : Ex → St → Prop) (X Y : Nat → Int) (a b : Int) (len i : Nat) (c B : Int) : roundE nearE (keepW nearR 0) Tryz.f11 nearPath 0 K (nearS X Y a b len i c B) =
    Br (decide ((i : Int) < len)) (If (decide (0 ≤ (i : Int)) && decide ((i : Int) < len)) ((fun D =>
      Br (decide (c < 0)) (K .normal (nearS X Y a b len (IntKind.i64.wrap (i + 1)) i D))
        (Br (decide (cmpI (wv (D / 18446744073709551616) (D % 18446744073709551616)) (wv (B / 18446744073709551616) (B % 18446744073709551616)) < 0)) (K .normal (nearS X Y a b len (IntKind.i64.wrap (i + 1)) i D))
          (K .normal (nearS X Y a b len (IntKind.i64.wrap (i + 1)) c B))))
      (accD (IntKind.i64.wrap (X i - a) * IntKind.i64.wrap (X i - a)) (IntKind.i64.wrap (Y i - b) * IntKind.i64.wrap (Y i - b)))))
      (K (.exit 0) (nearS X Y a b len i c B)) := by kernel_rfl
theorem near_after (K : KC) (X Y : Nat → Int) (a b : Int) (len : Nat) (i c B : Int) : afterE nearE (keepW nearR 0) Tryz.f11 nearPath 0 K (.exit 0) (nearS X Y a b len i c B) = K (.int .i64 c) [] [] := by kernel_rfl
theorem near_loop (K : KC) (X Y : Nat → Int) (a b : Int) (len : Nat) (hlen : len < 9223372036854775808) : ∀ (f i : Nat) (c B : Int), i + f = len → K (.int .i64 (nearF X Y a b f i c B)) [] [] →
    loopE nearE (keepW nearR 0) Tryz.f11 nearPath 0 0 K (f + 1) (nearS X Y a b len i c B)
  | f, i, c, B, h, hK => by
    rw [loopE_succ, near_round]
    refine Br.of (fun c1 => If.mk ?_ ?_) fun c1 => ?_
    · have := of_decide_eq_true c1
      simp only [Bool.and_eq_true, decide_eq_true_eq]; omega
    · have c1' := of_decide_eq_true c1
      have hD : accD (IntKind.i64.wrap (X i - a) * IntKind.i64.wrap (X i - a)) (IntKind.i64.wrap (Y i - b) * IntKind.i64.wrap (Y i - b)) = distF (X i) (Y i) a b := by
        unfold accD distF; rw [wv_wide, wv_wide]
      rw [hD]
      show Br _ _ _
      rw [wv_wide, wv_wide, wi64, show ((i : Int) + 1 + 9223372036854775808) % 18446744073709551616 - 9223372036854775808 = ((i + 1 : Nat) : Int) by omega]
      have hcmp : decide (cmpI (distF (X i) (Y i) a b) B < 0) = decide (distF (X i) (Y i) a b < B) := by
        unfold cmpI
        by_cases h1 : distF (X i) (Y i) a b < B
        · rw [decide_eq_true h1]; rfl
        · rw [decide_eq_false h1]
          by_cases h2 : B < distF (X i) (Y i) a b
          · rw [decide_eq_true h2]; rfl
          · rw [decide_eq_false h2]; rfl
      rw [hcmp]
      cases f with
      | zero => omega
      | succ f =>
        unfold nearF at hK
        refine Br.of (fun c2 => ?_) fun c2 => Br.of (fun c3 => ?_) fun c3 => ?_
        · rw [c2] at hK
          exact near_loop K X Y a b len hlen f (i + 1) i _ (by omega) hK
        · rw [c2, c3] at hK
          exact near_loop K X Y a b len hlen f (i + 1) i _ (by omega) hK
        · rw [c2, c3] at hK
          exact near_loop K X Y a b len hlen f (i + 1) c B (by omega) hK
    · have c1' := of_decide_eq_false c1
      show afterE _ _ _ _ _ _ _ _
      rw [near_after]
      cases f with
      | zero => exact hK
      | succ f => omega
theorem near_ok (X Y : Nat → Int) (len : Nat) (a b : Int) : CallOK Tryz.prog nearId [.ro len 2 (farCells X Y), .agg [.int .i64 a, .int .i64 b]] [] (.int .i64 (nearV X Y len a b)) [] [] :=
  runL_ok nearR (fun _ => 0) k17 3 (fun _ h => nomatch h) fun ⟨⟨hl, _⟩, _⟩ _ K hK => by
    have hK := hK [] fun _ h => nomatch h
    rw [near_entry]
    unfold nearV at hK
    refine Br.of (fun c => ?_) fun c => ⟨fun _ => rfl, Br.of (fun c2 => ?_) fun c2 => ?_⟩
    · rw [c] at hK; exact hK
    · rw [c, c2] at hK; exact hK
    · rw [c, c2] at hK
      exact ⟨len + 1, near_loop K X Y a b len hl len 0 (-1) 0 (by omega) hK⟩
def cNear : List SV → List (Option SB) → KC → Prop
  | [.ro len 2 g, .agg [.int .i64 a, .int .i64 b]], [], K => pts g ∧ K (.int .i64 (nearV (fun i => px (g i)) (fun i => py (g i)) len a b)) [] []
  | _, _, _ => False
theorem near_sat (xs : List SV) (σ : List (Option SB)) : Sat Tryz.prog nearId xs σ (cNear xs σ) := by
  intro K hK
  unfold cNear at hK
  split at hK
  · rename_i len g a b
    obtain ⟨hp, hK⟩ := hK
    refine ⟨_, _, _, hK, ?_⟩
    have := near_ok (fun i => px (g i)) (fun i => py (g i)) len a b
    rw [← pts_eq hp] at this
    exact this
  · exact hK.elim
end Go.Proofs.YthohgogofenamaaGreat

