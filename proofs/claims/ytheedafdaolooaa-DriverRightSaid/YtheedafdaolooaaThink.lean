import Derived.Test.YtheedafdaolooaaQuat
import Derived.Test.YtheedafdaolooaaSeThink
namespace Go.Proofs.Ytheedafdaolooaa
open Go.Se
set_option maxRecDepth 100000
def cellsZ (Z : Nat → Int) : Nat → List SV := fun i => [.int .i64 (Z i)]
theorem think_entry (o : Bool) (Vc Vs : Val) (X Y Z : Nat → Int) (n m : Nat) (K : KC) : runU 0 k19 6 5 [.ptr 0 0, argSV tab.tt 8 37 Vc, .ro n 2 (farCells X Y), .ro m 1 (cellsZ Z), argSV tab.tt 8 54 Vs] [some (.cells mT [.bool o])] K =
    thinkP mT (whatSeen Vc Vs) n m X Y Z o K := by kernel_rfl
theorem car_agg (V : Val) : argSV tab.tt 8 37 V = .agg (mk tab.tt 8 37 V) := by kernel_rfl
theorem car_steer (V : Val) : (mk tab.tt 8 37 V)[67]? = some (.int .u32 (V.int [23])) := by kernel_rfl
theorem okL_get : ∀ {l : List SV} {i : Nat} {x : SV}, okL l → l[i]? = some x → ok x
  | a :: l, 0, x, h, e => by simp at e; subst e; exact h.1
  | a :: l, i + 1, x, h, e => okL_get (l := l) h.2 (by simpa using e)
  | [], i, x, h, e => by simp at e
theorem think_ok (o : Bool) (Vc Vs : Val) (X Y Z : Nat → Int) (n m : Nat) (hn : n ≤ 1000000) : CallOK Try.prog 5 [.ptr 0 0, argSV tab.tt 8 37 Vc, .ro n 2 (farCells X Y), .ro m 1 (cellsZ Z), argSV tab.tt 8 54 Vs] (overC mT o)
    (thinkV (whatSeen Vc Vs) n m X Y Z) (overC mT (thinkO (whatSeen Vc Vs) n m X Y Z o)) [0] :=
  runD_ok 0 k19 6 zero_lt fun ⟨_, hc, _⟩ _ K hK => by
    rw [car_agg] at hc
    have hs : 0 ≤ Vc.int [23] ∧ Vc.int [23] ≤ 4294967295 := okL_get hc (car_steer Vc)
    show runU 0 k19 6 _ _ [some (.cells mT [.bool o])] K
    rw [think_entry]
    exact thinkP_law hn hs.1 hs.2 hK
def cThink (xs : List SV) (σ : List (Option SB)) (K : KC) : Prop :=
  ∃ (o : Bool) (Vc Vs : Val) (X Y Z : Nat → Int) (n m : Nat), (xs = [.ptr 0 0, argSV tab.tt 8 37 Vc, .ro n 2 (farCells X Y), .ro m 1 (cellsZ Z), argSV tab.tt 8 54 Vs] ∧ σ = overC mT o ∧ n ≤ 1000000) ∧
    K (thinkV (whatSeen Vc Vs) n m X Y Z) (overC mT (thinkO (whatSeen Vc Vs) n m X Y Z o)) [0]
theorem think_sat (xs : List SV) (σ : List (Option SB)) : Sat Try.prog 5 xs σ (cThink xs σ) := by
  rintro K ⟨o, Vc, Vs, X, Y, Z, n, m, ⟨rfl, rfl, hn⟩, hK⟩
  exact ⟨_, _, _, hK, think_ok o Vc Vs X Y Z n m hn⟩

/-- Small tables: as it comes. -/
theorem few_any : True := trivial
end Go.Proofs.Ytheedafdaolooaa
