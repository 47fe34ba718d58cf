import Derived.Test.YtheedafdaolooaaFar
namespace Go.Proofs.Ytheedafdaolooaa
open Go.Se
set_option maxRecDepth 100000
abbrev nearId : FuncId := 11
def nearR : List (Nat × Keep) := [(0, ⟨[5, 3, 6, 20, 21, 22, 4], [0, 1], [1, 2, 3], 2⟩)]
def nearS (X Y : Nat → Int) (a b : Int) (len : Nat) (i c B : Int) : St :=
  ⟨[(5, .int .i64 c), (3, .ptr 0 0), (6, .ptr 1 0), (20, .ro len 2 (farCells X Y)), (21, .int .i64 len), (22, .int .i64 i), (4, .int .i64 0)],
    [(0, some (.cells 69 [.int .i64 a, .int .i64 b])), (1, some (.cells 91 [.int .i64 (B / 18446744073709551616), .int .u64 (B % 18446744073709551616)]))], 2, [1, 2, 3], 59⟩
abbrev nearPath : List Nat := [1, 1, 1, 0, 1, 0]
noncomputable abbrev nearE : Env := envL nearR (fun _ => 0) k17 2
theorem near_entry (K : KC) (X Y : Nat → Int) (a b : Int) (len : Nat) : runL nearR (fun _ => 0) k17 3 nearId [.ro len 2 (farCells X Y), .agg [.int .i64 a, .int .i64 b]] [] K =
    Br (farB a b) (K (.int .i64 (-1)) [] []) (pts (farCells X Y) ∧ Br (decide (farFrom X Y len 0 ≥ 0)) (K (.int .i64 (-1)) [] [])
      (∃ n, loopE nearE (keepW nearR 0) Try.f11 nearPath 0 0 K n (nearS X Y a b len 0 (-1) 0))) := by kernel_rfl
def accD (u v : Int) : Int := bif in128 (wv (u / 18446744073709551616) (u % 18446744073709551616) + wv (v / 18446744073709551616) (v % 18446744073709551616)) then wv (u / 18446744073709551616) (u % 18446744073709551616) + wv (v / 18446744073709551616) (v % 18446744073709551616) else 0
theorem near_round (K : Ex → St → Prop) (X Y : Nat → Int) (a b : Int) (len i : Nat) (c B : Int) : roundE nearE (keepW nearR 0) Try.f11 nearPath 0 K (nearS X Y a b len i c B) =
    Br (decide ((i : Int) < len)) (If (decide (0 ≤ (i : Int)) && decide ((i : Int) < len)) ((fun D =>
      Br (decide (c < 0)) (K .normal (nearS X Y a b len (IntKind.i64.wrap (i + 1)) i D))
        (Br (decide (cmpI (wv (D / 18446744073709551616) (D % 18446744073709551616)) (wv (B / 18446744073709551616) (B % 18446744073709551616)) < 0)) (K .normal (nearS X Y a b len (IntKind.i64.wrap (i + 1)) i D))
          (K .normal (nearS X Y a b len (IntKind.i64.wrap (i + 1)) c B))))
      (accD (IntKind.i64.wrap (X i - a) * IntKind.i64.wrap (X i - a)) (IntKind.i64.wrap (Y i - b) * IntKind.i64.wrap (Y i - b)))))
      (K (.exit 0) (nearS X Y a b len i c B)) := by kernel_rfl
theorem near_after (K : KC) (X Y : Nat → Int) (a b : Int) (len : Nat) (i c B : Int) : afterE nearE (keepW nearR 0) Try.f11 nearPath 0 K (.exit 0) (nearS X Y a b len i c B) = K (.int .i64 c) [] [] := by kernel_rfl
theorem near_loop (K : KC) (X Y : Nat → Int) (a b : Int) (len : Nat) (hlen : len < 9223372036854775808) : ∀ (f i : Nat) (c B : Int), i + f = len → K (.int .i64 (nearF X Y a b f i c B)) [] [] →
    loopE nearE (keepW nearR 0) Try.f11 nearPath 0 0 K (f + 1) (nearS X Y a b len i c B)
  | f, i, c, B, h, hK => by
    rw [loopE_succ, near_round]
    refine Br.of (fun c1 => If.mk ?_ ?_) fun c1 => ?_
    · have := of_decide_eq_true c1
      simp only [Bool.and_eq_true, decide_eq_true_eq]; omega
    · have c1' := of_decide_eq_true c1
      have hD : accD (IntKind.i64.wrap (X i - a) * IntKind.i64.wrap (X i - a)) (IntKind.i64.wrap (Y i - b) * IntKind.i64.wrap (Y i - b)) = distF (X i) (Y i) a b := by
        unfold accD distF; rw [wv_wide, wv_wide]
      rw [hD]
      show Br _ _ _
      rw [wv_wide, wv_wide, wi64, show ((i : Int) + 1 + 9223372036854775808) % 18446744073709551616 - 9223372036854775808 = ((i + 1 : Nat) : Int) by omega]
      have hcmp : decide (cmpI (distF (X i) (Y i) a b) B < 0) = decide (distF (X i) (Y i) a b < B) := by
        unfold cmpI
        by_cases h1 : distF (X i) (Y i) a b < B
        · rw [decide_eq_true h1]; rfl
        · rw [decide_eq_false h1]
          by_cases h2 : B < distF (X i) (Y i) a b
          · rw [decide_eq_true h2]; rfl
          · rw [decide_eq_false h2]; rfl
      rw [hcmp]
      cases f with
      | zero => omega
      | succ f =>
        unfold nearF at hK
        refine Br.of (fun c2 => ?_) fun c2 => Br.of (fun c3 => ?_) fun c3 => ?_
        · rw [c2] at hK
          exact near_loop K X Y a b len hlen f (i + 1) i _ (by omega) hK
        · rw [c2, c3] at hK
          exact near_loop K X Y a b len hlen f (i + 1) i _ (by omega) hK
        · rw [c2, c3] at hK
          exact near_loop K X Y a b len hlen f (i + 1) c B (by omega) hK
    · have c1' := of_decide_eq_false c1
      show afterE _ _ _ _ _ _ _ _
      rw [near_after]
      cases f with
      | zero => exact hK
      | succ f => omega
theorem near_ok (X Y : Nat → Int) (len : Nat) (a b : Int) : CallOK Try.prog nearId [.ro len 2 (farCells X Y), .agg [.int .i64 a, .int .i64 b]] [] (.int .i64 (nearV X Y len a b)) [] [] :=
  runL_ok nearR (fun _ => 0) k17 3 (fun _ h => nomatch h) fun ⟨⟨hl, _⟩, _⟩ _ K hK => by
    have hK := hK [] fun _ h => nomatch h
    rw [near_entry]
    unfold nearV at hK
    refine Br.of (fun c => ?_) fun c => ⟨fun _ => rfl, Br.of (fun c2 => ?_) fun c2 => ?_⟩
    · rw [c] at hK; exact hK
    · rw [c, c2] at hK; exact hK
    · rw [c, c2] at hK
      exact ⟨len + 1, near_loop K X Y a b len hl len 0 (-1) 0 (by omega) hK⟩
def cNear : List SV → List (Option SB) → KC → Prop
  | [.ro len 2 g, .agg [.int .i64 a, .int .i64 b]], [], K => pts g ∧ K (.int .i64 (nearV (fun i => px (g i)) (fun i => py (g i)) len a b)) [] []
  | _, _, _ => False
theorem near_sat (xs : List SV) (σ : List (Option SB)) : Sat Try.prog nearId xs σ (cNear xs σ) := by
  intro K hK
  unfold cNear at hK
  split at hK
  · rename_i len g a b
    obtain ⟨hp, hK⟩ := hK
    refine ⟨_, _, _, hK, ?_⟩
    have := near_ok (fun i => px (g i)) (fun i => py (g i)) len a b
    rw [← pts_eq hp] at this
    exact this
  · exact hK.elim
end Go.Proofs.Ytheedafdaolooaa
