import Derived.Test.YtheedafdaolooaaTow
import Derived.Test.YtheedafdaolooaaSeTrig
namespace Go.Proofs.Ytheedafdaolooaa
open Go.Se
set_option maxRecDepth 100000
theorem far_ok (x y : Int) : CallOK Try.prog 23 [.agg [.int .i64 x, .int .i64 y]] [] (.bool (farB x y)) [] [] :=
  run_ok k15 2 fun _ _ K hK => by
    have e : ∀ K, run k15 2 23 [.agg [.int .i64 x, .int .i64 y]] [] K =
      Br (decide ((if y > x then y else x) > 281474976710656)) (K (.bool true) [] []) (K (.bool (decide ((if y < x then y else x) < -281474976710656))) [] []) := fun K => by kernel_rfl
    rw [e]
    unfold farB at hK
    refine Br.of (fun c => ?_) fun c => ?_ <;> rw [c] at hK <;> exact hK
def cFar : List SV → List (Option SB) → Out
  | [.agg [.int .i64 x, .int .i64 y]], [] => some (.bool (farB x y), [], [])
  | _, _ => none
noncomputable def k16 : Know Try.prog := k15.add 23 (one cFar) (one_sat fun xs σ v σ' d h => by
    unfold cFar at h; split at h <;> cases h; exact far_ok _ _)

abbrev idxF : FuncId := 42
def idxR : List (Nat × Keep) := [(0, ⟨[4, 0, 1, 7, 8], [], [], 0⟩)]
def idxS (X Y : Nat → Int) (len : Nat) (r i : Int) : St := ⟨[(4, .int .i64 r), (0, .ro len 2 (farCells X Y)), (1, .fn (.func 23) [] []), (7, .int .i64 len), (8, .int .i64 i)], [], 0, [], 19⟩
abbrev idxPath : List Nat := [1, 0, 1, 0]
noncomputable abbrev idxE : Env := envL idxR (fun _ => 0) k16 1
theorem idx_entry (K : KC) (X Y : Nat → Int) (len : Nat) : runL idxR (fun _ => 0) k16 2 idxF [.ro len 2 (farCells X Y), .fn (.func 23) [] []] [] K =
    ∃ n, loopE idxE (keepW idxR 0) Try.f42 idxPath 0 0 K n (idxS X Y len 0 0) := by kernel_rfl
theorem idx_round (K : Ex → St → Prop) (X Y : Nat → Int) (len i : Nat) : roundE idxE (keepW idxR 0) Try.f42 idxPath 0 K (idxS X Y len 0 i) =
    Br (decide ((i : Int) < len)) (If (decide (0 ≤ (i : Int)) && decide ((i : Int) < len)) (Br (farB (X i) (Y i)) (K .ret (idxS X Y len i i)) (K .normal (idxS X Y len 0 (IntKind.i64.wrap (i + 1))))))
      (K (.exit 0) (idxS X Y len 0 i)) := by kernel_rfl
theorem idx_ret (K : KC) (X Y : Nat → Int) (len : Nat) (r i : Int) : afterE idxE (keepW idxR 0) Try.f42 idxPath 0 K .ret (idxS X Y len r i) = K (.int .i64 r) [] [] := by kernel_rfl
theorem idx_after (K : KC) (X Y : Nat → Int) (len : Nat) (r i : Int) : afterE idxE (keepW idxR 0) Try.f42 idxPath 0 K (.exit 0) (idxS X Y len r i) = K (.int .i64 (-1)) [] [] := by kernel_rfl
theorem idx_loop (K : KC) (X Y : Nat → Int) (len : Nat) (hlen : len < 9223372036854775808) : ∀ (f i : Nat), i + f = len → K (.int .i64 (farFrom X Y f i)) [] [] →
    loopE idxE (keepW idxR 0) Try.f42 idxPath 0 0 K (f + 1) (idxS X Y len 0 i)
  | f, i, h, hK => by
    rw [loopE_succ, idx_round]
    refine Br.of (fun c1 => If.mk ?_ (Br.of (fun c2 => ?_) fun c2 => ?_)) fun c1 => ?_
    · have := of_decide_eq_true c1
      simp only [Bool.and_eq_true, decide_eq_true_eq]; omega
    · have c1' := of_decide_eq_true c1
      show afterE _ _ _ _ _ _ _ _
      rw [idx_ret]
      cases f with
      | zero => omega
      | succ f => unfold farFrom at hK; rw [c2] at hK; exact hK
    · have c1' := of_decide_eq_true c1
      cases f with
      | zero => omega
      | succ f =>
        unfold farFrom at hK; rw [c2] at hK
        rw [wi64, show ((i : Int) + 1 + 9223372036854775808) % 18446744073709551616 - 9223372036854775808 = ((i + 1 : Nat) : Int) by omega]
        exact idx_loop K X Y len hlen f (i + 1) (by omega) hK
    · have c1' := of_decide_eq_false c1
      show afterE _ _ _ _ _ _ _ _
      rw [idx_after]
      cases f with
      | zero => exact hK
      | succ f => omega
theorem idx_ok (X Y : Nat → Int) (len : Nat) : CallOK Try.prog idxF [.ro len 2 (farCells X Y), .fn (.func 23) [] []] [] (.int .i64 (farFrom X Y len 0)) [] [] :=
  runL_ok idxR (fun _ => 0) k16 2 (fun _ h => nomatch h) fun ⟨⟨hl, _⟩, _⟩ _ K hK => by
    rw [idx_entry]
    exact ⟨len + 1, idx_loop K X Y len hl len 0 (by omega) (hK [] fun _ h => nomatch h)⟩
def cIdx : List SV → List (Option SB) → KC → Prop
  | [.ro len 2 g, .fn (.func 23) [] []], [], K => pts g ∧ K (.int .i64 (farFrom (fun i => px (g i)) (fun i => py (g i)) len 0)) [] []
  | _, _, _ => False
theorem idx_sat (xs : List SV) (σ : List (Option SB)) : Sat Try.prog idxF xs σ (cIdx xs σ) := by
  intro K hK
  unfold cIdx at hK
  split at hK
  · rename_i len get
    obtain ⟨hp, hK⟩ := hK
    refine ⟨_, _, _, hK, ?_⟩
    have := idx_ok (fun i => px (get i)) (fun i => py (get i)) len
    rw [← pts_eq hp] at this
    exact this
  · exact hK.elim
noncomputable def k17 : Know Try.prog := k16.add idxF cIdx idx_sat
end Go.Proofs.Ytheedafdaolooaa
