import Derived.Test.YthohgogofenamaaGreatAwake
import Derived.Test.YthohgogofenamaaGreatSeTrig
namespace Go.Proofs.YthohgogofenamaaGreat
open Go.Se
set_option maxRecDepth 100000
noncomputable def k18 : Know Tryz.prog := withFx (k17.add nearId cNear near_sat)
theorem zero_lt : ∀ {x : Option SB} (p : Nat), p ∈ [0] → p < [x].length := fun p hp => by simp at hp; subst hp; exact Nat.zero_lt_one
theorem mat_ok (o : Bool) (w x y z : Int) : CallOK Tryz.prog 14 [.ptr 0 0, .agg [.int .i64 w, .int .i64 x, .int .i64 y, .int .i64 z]] [some (.cells mT [.bool o])]
    (.agg (matV w x y z)) [some (.cells mT [.bool (matO w x y z o)])] [0] :=
  runD_ok 0 k18 6 zero_lt fun _ _ K hK => by
    have e : ∀ K, runU 0 k18 6 14 [.ptr 0 0, .agg [.int .i64 w, .int .i64 x, .int .i64 y, .int .i64 z]] [some (.cells mT [.bool o])] K = K (.agg (matV w x y z)) [some (.cells mT [.bool (matO w x y z o)])] [0] := fun K => by kernel_rfl
    rw [e]; exact hK _ fun _ h => h
theorem dot_ok (o : Bool) (a b c x y z : Int) : CallOK Tryz.prog 43 [.ptr 0 0, .agg [.int .i64 a, .int .i64 b, .int .i64 c], .agg [.int .i64 x, .int .i64 y, .int .i64 z]] [some (.cells mT [.bool o])]
    (.int .i64 (dotV a b c x y z)) [some (.cells mT [.bool (dotO a b c x y z o)])] [0] :=
  runD_ok 0 k18 6 zero_lt fun _ _ K hK => by
    have e : ∀ K, runU 0 k18 6 43 [.ptr 0 0, .agg [.int .i64 a, .int .i64 b, .int .i64 c], .agg [.int .i64 x, .int .i64 y, .int .i64 z]] [some (.cells mT [.bool o])] K = K (.int .i64 (dotV a b c x y z)) [some (.cells mT [.bool (dotO a b c x y z o)])] [0] := fun K => by kernel_rfl
    rw [e]; exact hK _ fun _ h => h
def cMat : List SV → List (Option SB) → Out
  | [.ptr 0 0, .agg [.int .i64 w, .int .i64 x, .int .i64 y, .int .i64 z]], [some (.cells 58 [.bool o])] => some (.agg (matV w x y z), [some (.cells mT [.bool (matO w x y z o)])], [0])
  | _, _ => none
def cDot : List SV → List (Option SB) → Out
  | [.ptr 0 0, .agg [.int .i64 a, .int .i64 b, .int .i64 c], .agg [.int .i64 x, .int .i64 y, .int .i64 z]], [some (.cells 58 [.bool o])] => some (.int .i64 (dotV a b c x y z), [some (.cells mT [.bool (dotO a b c x y z o)])], [0])
  | _, _ => none
noncomputable def k19 : Know Tryz.prog := (k18.add 14 (one cMat) (one_sat fun xs σ v σ' d h => by
    unfold cMat at h; split at h <;> cases h; exact mat_ok _ _ _ _ _)).add 43 (one cDot) (one_sat fun xs σ v σ' d h => by
    unfold cDot at h; split at h <;> cases h; exact dot_ok _ _ _ _ _ _ _)
end Go.Proofs.YthohgogofenamaaGreat

namespace Go.Proofs.YthohgogofenamaaGreat
open Go.Se
set_option maxRecDepth 100000
def cellsZ (Z : Nat → Int) : Nat → List SV := fun i => [.int .i64 (Z i)]
theorem think_entry (o : Bool) (Vc Vs : Val) (X Y Z : Nat → Int) (n m : Nat) (K : KC) : runU 0 k19 6 5 [.ptr 0 0, argSV tab.tt 8 37 Vc, .ro n 2 (farCells X Y), .ro m 1 (cellsZ Z), argSV tab.tt 8 54 Vs] [some (.cells mT [.bool o])] K =
    thinkP mT (whatSeen Vc Vs) n m X Y Z o K := by kernel_rfl
theorem car_agg (V : Val) : argSV tab.tt 8 37 V = .agg (mk tab.tt 8 37 V) := by kernel_rfl
theorem car_steer (V : Val) : (mk tab.tt 8 37 V)[67]? = some (.int .u32 (V.int [23])) := by kernel_rfl
theorem okL_get : ∀ {l : List SV} {i : Nat} {x : SV}, okL l → l[i]? = some x → ok x
  | a :: l, 0, x, h, e => by simp at e; subst e; exact h.1
  | a :: l, i + 1, x, h, e => okL_get (l := l) h.2 (by simpa using e)
  | [], i, x, h, e => by simp at e
theorem think_ok (o : Bool) (Vc Vs : Val) (X Y Z : Nat → Int) (n m : Nat) (hn : n ≤ 1000000) : CallOK Tryz.prog 5 [.ptr 0 0, argSV tab.tt 8 37 Vc, .ro n 2 (farCells X Y), .ro m 1 (cellsZ Z), argSV tab.tt 8 54 Vs] (overC mT o)
    (thinkV (whatSeen Vc Vs) n m X Y Z) (overC mT (thinkO (whatSeen Vc Vs) n m X Y Z o)) [0] :=
  runD_ok 0 k19 6 zero_lt fun ⟨_, hc, _⟩ _ K hK => by
    rw [car_agg] at hc
    have hs : 0 ≤ Vc.int [23] ∧ Vc.int [23] ≤ 4294967295 := okL_get hc (car_steer Vc)
    show runU 0 k19 6 _ _ [some (.cells mT [.bool o])] K
    rw [think_entry]
    exact thinkP_law hn hs.1 hs.2 hK
def cThink (xs : List SV) (σ : List (Option SB)) (K : KC) : Prop :=
  ∃ (o : Bool) (Vc Vs : Val) (X Y Z : Nat → Int) (n m : Nat), (xs = [.ptr 0 0, argSV tab.tt 8 37 Vc, .ro n 2 (farCells X Y), .ro m 1 (cellsZ Z), argSV tab.tt 8 54 Vs] ∧ σ = overC mT o ∧ n ≤ 1000000) ∧
    K (thinkV (whatSeen Vc Vs) n m X Y Z) (overC mT (thinkO (whatSeen Vc Vs) n m X Y Z o)) [0]
theorem think_sat (xs : List SV) (σ : List (Option SB)) : Sat Tryz.prog 5 xs σ (cThink xs σ) := by
  rintro K ⟨o, Vc, Vs, X, Y, Z, n, m, ⟨rfl, rfl, hn⟩, hK⟩
  exact ⟨_, _, _, hK, think_ok o Vc Vs X Y Z n m hn⟩

/-- Small tables: as it comes. -/
theorem few_any : True := trivial
end Go.Proofs.YthohgogofenamaaGreat

namespace Go.Proofs.YthohgogofenamaaGreat
open Go.Se
set_option maxRecDepth 100000
abbrev fewId : FuncId := 30
def fewR : List (Nat × Keep) := [(0, ⟨[3, 1, 2], [0], [], 1⟩)]
def fewS (a b c : Nat) (g h : Nat → List SV) (L : Nat → Nat) (G : Nat → Nat → List SV) (r : Bool) (i : Int) : St :=
  ⟨[(3, .int .i64 i), (1, .ptr 0 0), (2, .bool r)], [(0, some (.cells 33 [.ro a 1 g, .ro b 1 h, .ro c 1 (rowsC L G)]))], 1, [], 34⟩
abbrev fewPath : List Nat := [1, 1, 0, 1, 0]
noncomputable abbrev fewE : Env := envL fewR (fun _ => 0) k0 1
theorem few_entry (K : KC) (a b c : Nat) (g h : Nat → List SV) (L : Nat → Nat) (G : Nat → Nat → List SV) : runL fewR (fun _ => 0) k0 2 fewId [.agg [.ro a 1 g, .ro b 1 h, .ro c 1 (rowsC L G)]] [] K =
    Br (decide ((a : Int) > 40)) (K (.bool false) [] []) (Br (decide ((b : Int) > 40)) (K (.bool false) [] []) (Br (decide ((c : Int) > 40)) (K (.bool false) [] [])
      (∃ n, loopE fewE (keepW fewR 0) Tryz.f30 fewPath 0 0 K n (fewS a b c g h L G false 0)))) := by kernel_rfl
theorem few_round (K : Ex → St → Prop) (a b c : Nat) (g h : Nat → List SV) (L : Nat → Nat) (G : Nat → Nat → List SV) (i : Nat) : roundE fewE (keepW fewR 0) Tryz.f30 fewPath 0 K (fewS a b c g h L G false i) =
    Br (decide ((i : Int) < c)) (If (decide (0 ≤ (i : Int)) && decide ((i : Int) < c)) (Br (decide ((L i : Int) > 40)) (K .ret (fewS a b c g h L G false i)) (K .normal (fewS a b c g h L G false (IntKind.i64.wrap (i + 1))))))
      (K (.exit 0) (fewS a b c g h L G false i)) := by kernel_rfl
theorem few_ret (K : KC) (a b c : Nat) (g h : Nat → List SV) (L : Nat → Nat) (G : Nat → Nat → List SV) (r : Bool) (i : Int) : afterE fewE (keepW fewR 0) Tryz.f30 fewPath 0 K .ret (fewS a b c g h L G r i) = K (.bool r) [] [] := by kernel_rfl
theorem few_after (K : KC) (a b c : Nat) (g h : Nat → List SV) (L : Nat → Nat) (G : Nat → Nat → List SV) (r : Bool) (i : Int) : afterE fewE (keepW fewR 0) Tryz.f30 fewPath 0 K (.exit 0) (fewS a b c g h L G r i) = K (.bool true) [] [] := by kernel_rfl
theorem few_loop (K : KC) (a b c : Nat) (g h : Nat → List SV) (L : Nat → Nat) (G : Nat → Nat → List SV) (hc : c < 9223372036854775808) : ∀ (f i : Nat), i + f = c → K (.bool (fewRows L f i)) [] [] →
    loopE fewE (keepW fewR 0) Tryz.f30 fewPath 0 0 K (f + 1) (fewS a b c g h L G false i)
  | f, i, hf, hK => by
    rw [loopE_succ, few_round]
    refine Br.of (fun c1 => If.mk ?_ (Br.of (fun c2 => ?_) fun c2 => ?_)) fun c1 => ?_
    · have := of_decide_eq_true c1
      simp only [Bool.and_eq_true, decide_eq_true_eq]; omega
    · have c1' := of_decide_eq_true c1
      show afterE _ _ _ _ _ _ _ _
      rw [few_ret]
      cases f with
      | zero => omega
      | succ f => unfold fewRows at hK; rw [c2] at hK; exact hK
    · have c1' := of_decide_eq_true c1
      cases f with
      | zero => omega
      | succ f =>
        unfold fewRows at hK; rw [c2] at hK
        rw [wi64, show ((i : Int) + 1 + 9223372036854775808) % 18446744073709551616 - 9223372036854775808 = ((i + 1 : Nat) : Int) by omega]
        exact few_loop K a b c g h L G hc f (i + 1) (by omega) hK
    · have c1' := of_decide_eq_false c1
      show afterE _ _ _ _ _ _ _ _
      rw [few_after]
      cases f with
      | zero => exact hK
      | succ f => omega
theorem few_ok (a b c : Nat) (g h : Nat → List SV) (L : Nat → Nat) (G : Nat → Nat → List SV) : CallOK Tryz.prog fewId [.agg [.ro a 1 g, .ro b 1 h, .ro c 1 (rowsC L G)]] [] (.bool (fewV a b c L)) [] [] :=
  runL_ok fewR (fun _ => 0) k0 2 (fun _ h => nomatch h) fun ⟨⟨_, _, ⟨hc, _⟩, _⟩, _⟩ _ K hK => by
    have hK := hK [] fun _ h => nomatch h
    rw [few_entry]
    unfold fewV at hK
    refine Br.of (fun c1 => ?_) fun c1 => Br.of (fun c2 => ?_) fun c2 => Br.of (fun c3 => ?_) fun c3 => ?_
    · rw [c1] at hK; exact hK
    · rw [c1, c2] at hK; exact hK
    · rw [c1, c2, c3] at hK; exact hK
    · rw [c1, c2, c3] at hK
      exact ⟨c + 1, few_loop K a b c g h L G hc c 0 (by omega) hK⟩
def cFew : List SV → List (Option SB) → KC → Prop
  | [.agg [.ro a 1 _, .ro b 1 _, .ro c 1 x]], [], K => ∃ L G, x = rowsC L G ∧ K (.bool (fewV a b c L)) [] []
  | _, _, _ => False
theorem few_sat (xs : List SV) (σ : List (Option SB)) : Sat Tryz.prog fewId xs σ (cFew xs σ) := by
  intro K hK
  unfold cFew at hK
  split at hK
  · obtain ⟨L, G, rfl, hK⟩ := hK
    exact ⟨_, _, _, hK, few_ok _ _ _ _ _ L G⟩
  · exact hK.elim
noncomputable def kR : Know Tryz.prog := ((k19.add 5 cThink think_sat).add fewId cFew few_sat).add 7 (one cAwake) (one_sat fun xs σ v σ' d h => by
    unfold cAwake at h; split at h <;> cases h; exact awake_ok)
end Go.Proofs.YthohgogofenamaaGreat

