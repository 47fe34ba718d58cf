import Derived.Test.YtheedafdaolooaaThink
import Derived.Test.YtheedafdaolooaaSeThink
namespace Go.Proofs.Ytheedafdaolooaa
open Go.Se
set_option maxRecDepth 100000
abbrev fewId : FuncId := 22
def fewR : List (Nat × Keep) := [(0, ⟨[3, 1, 2], [0], [], 1⟩)]
def fewS (a b c : Nat) (g h : Nat → List SV) (L : Nat → Nat) (G : Nat → Nat → List SV) (r : Bool) (i : Int) : St :=
  ⟨[(3, .int .i64 i), (1, .ptr 0 0), (2, .bool r)], [(0, some (.cells 33 [.ro a 1 g, .ro b 1 h, .ro c 1 (rowsC L G)]))], 1, [], 34⟩
abbrev fewPath : List Nat := [1, 1, 0, 1, 0]
noncomputable abbrev fewE : Env := envL fewR (fun _ => 0) k0 1
theorem few_entry (K : KC) (a b c : Nat) (g h : Nat → List SV) (L : Nat → Nat) (G : Nat → Nat → List SV) : runL fewR (fun _ => 0) k0 2 fewId [.agg [.ro a 1 g, .ro b 1 h, .ro c 1 (rowsC L G)]] [] K =
    Br (decide ((a : Int) > 40)) (K (.bool false) [] []) (Br (decide ((b : Int) > 40)) (K (.bool false) [] []) (Br (decide ((c : Int) > 40)) (K (.bool false) [] [])
      (∃ n, loopE fewE (keepW fewR 0) Try.f22 fewPath 0 0 K n (fewS a b c g h L G false 0)))) := by kernel_rfl
theorem few_round (K : Ex → St → Prop) (a b c : Nat) (g h : Nat → List SV) (L : Nat → Nat) (G : Nat → Nat → List SV) (i : Nat) : roundE fewE (keepW fewR 0) Try.f22 fewPath 0 K (fewS a b c g h L G false i) =
    Br (decide ((i : Int) < c)) (If (decide (0 ≤ (i : Int)) && decide ((i : Int) < c)) (Br (decide ((L i : Int) > 40)) (K .ret (fewS a b c g h L G false i)) (K .normal (fewS a b c g h L G false (IntKind.i64.wrap (i + 1))))))
      (K (.exit 0) (fewS a b c g h L G false i)) := by kernel_rfl
theorem few_ret (K : KC) (a b c : Nat) (g h : Nat → List SV) (L : Nat → Nat) (G : Nat → Nat → List SV) (r : Bool) (i : Int) : afterE fewE (keepW fewR 0) Try.f22 fewPath 0 K .ret (fewS a b c g h L G r i) = K (.bool r) [] [] := by kernel_rfl
theorem few_after (K : KC) (a b c : Nat) (g h : Nat → List SV) (L : Nat → Nat) (G : Nat → Nat → List SV) (r : Bool) (i : Int) : afterE fewE (keepW fewR 0) Try.f22 fewPath 0 K (.exit 0) (fewS a b c g h L G r i) = K (.bool true) [] [] := by kernel_rfl
theorem few_loop (K : KC) (a b c : Nat) (g h : Nat → List SV) (L : Nat → Nat) (G : Nat → Nat → List SV) (hc : c < 9223372036854775808) : ∀ (f i : Nat), i + f = c → K (.bool (fewRows L f i)) [] [] →
    loopE fewE (keepW fewR 0) Try.f22 fewPath 0 0 K (f + 1) (fewS a b c g h L G false i)
  | f, i, hf, hK => by
    rw [loopE_succ, few_round]
    refine Br.of (fun c1 => If.mk ?_ (Br.of (fun c2 => ?_) fun c2 => ?_)) fun c1 => ?_
    · have := of_decide_eq_true c1
      simp only [Bool.and_eq_true, decide_eq_true_eq]; omega
    · have c1' := of_decide_eq_true c1
      show afterE _ _ _ _ _ _ _ _
      rw [few_ret]
      cases f with
      | zero => omega
      | succ f => unfold fewRows at hK; rw [c2] at hK; exact hK
    · have c1' := of_decide_eq_true c1
      cases f with
      | zero => omega
      | succ f =>
        unfold fewRows at hK; rw [c2] at hK
        rw [wi64, show ((i : Int) + 1 + 9223372036854775808) % 18446744073709551616 - 9223372036854775808 = ((i + 1 : Nat) : Int) by omega]
        exact few_loop K a b c g h L G hc f (i + 1) (by omega) hK
    · have c1' := of_decide_eq_false c1
      show afterE _ _ _ _ _ _ _ _
      rw [few_after]
      cases f with
      | zero => exact hK
      | succ f => omega
theorem few_ok (a b c : Nat) (g h : Nat → List SV) (L : Nat → Nat) (G : Nat → Nat → List SV) : CallOK Try.prog fewId [.agg [.ro a 1 g, .ro b 1 h, .ro c 1 (rowsC L G)]] [] (.bool (fewV a b c L)) [] [] :=
  runL_ok fewR (fun _ => 0) k0 2 (fun _ h => nomatch h) fun ⟨⟨_, _, ⟨hc, _⟩, _⟩, _⟩ _ K hK => by
    have hK := hK [] fun _ h => nomatch h
    rw [few_entry]
    unfold fewV at hK
    refine Br.of (fun c1 => ?_) fun c1 => Br.of (fun c2 => ?_) fun c2 => Br.of (fun c3 => ?_) fun c3 => ?_
    · rw [c1] at hK; exact hK
    · rw [c1, c2] at hK; exact hK
    · rw [c1, c2, c3] at hK; exact hK
    · rw [c1, c2, c3] at hK
      exact ⟨c + 1, few_loop K a b c g h L G hc c 0 (by omega) hK⟩
def cFew : List SV → List (Option SB) → KC → Prop
  | [.agg [.ro a 1 _, .ro b 1 _, .ro c 1 x]], [], K => ∃ L G, x = rowsC L G ∧ K (.bool (fewV a b c L)) [] []
  | _, _, _ => False
theorem few_sat (xs : List SV) (σ : List (Option SB)) : Sat Try.prog fewId xs σ (cFew xs σ) := by
  intro K hK
  unfold cFew at hK
  split at hK
  · obtain ⟨L, G, rfl, hK⟩ := hK
    exact ⟨_, _, _, hK, few_ok _ _ _ _ _ L G⟩
  · exact hK.elim
noncomputable def kR : Know Try.prog := ((k19.add 5 cThink think_sat).add fewId cFew few_sat).add 7 (one cAwake) (one_sat fun xs σ v σ' d h => by
    unfold cAwake at h; split at h <;> cases h; exact awake_ok)
end Go.Proofs.Ytheedafdaolooaa
