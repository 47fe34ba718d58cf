import Derived.Test.YtheedafdaolooaaRoot
namespace Go.Proofs.Ytheedafdaolooaa
open Go.Se
set_option maxRecDepth 100000

def okW (A p : Int) : Bool := in128 (wv (A / 18446744073709551616) (A % 18446744073709551616) + wv (p / 18446744073709551616) (p % 18446744073709551616))
def accW (A p : Int) : Int := bif okW A p then wv (A / 18446744073709551616) (A % 18446744073709551616) + wv (p / 18446744073709551616) (p % 18446744073709551616) else 0
def lenEnd (t : TypeId) (o ok : Bool) (X : Int) (K : KC) : Prop :=
  Br (!ok) (K (.int .i64 9223372036854775807) [some (.cells t [.bool true])] [0])
    (Br (decide (isqrt (wv (X / 18446744073709551616) (X % 18446744073709551616)) > 9223372036854775807)) (K (.int .i64 9223372036854775807) [some (.cells t [.bool true])] [0])
      (K (.int .i64 (IntKind.i64.wrap (isqrt (wv (X / 18446744073709551616) (X % 18446744073709551616))))) [some (.cells t [.bool o])] []))
def KLen (t : TypeId) (o : Bool) (N : Int) (K : KC) : Prop := ∀ d, (∀ p, p ∈ d → p ∈ [0]) → K (.int .i64 (lenV N)) [some (.cells t [.bool (o || !lenGood N)])] d

theorem lenEnd_law {t : TypeId} {o : Bool} {N : Int} {K : KC} (h0 : 0 ≤ N) (h1 : N < 170141183460469231731687303715884105728) (hK : KLen t o N K) : lenEnd t o true N K := by
  unfold lenEnd
  rw [wv_wide]
  obtain ⟨a, b, c, d⟩ := isqrt_ok h0 h1
  refine Br.of (fun h => by cases h) fun _ => Br.of (fun c1 => ?_) fun c1 => ?_
  · have c1' := of_decide_eq_true c1
    have := hK [0] fun p h => h
    unfold lenV at this
    rw [show lenGood N = false by unfold lenGood; rw [decide_eq_false (show ¬ isqrt N ≤ 9223372036854775807 by omega), Bool.and_false]] at this
    simpa using this
  · have c1' := of_decide_eq_false c1
    have := hK [] fun p h => nomatch h
    unfold lenV at this
    rw [show lenGood N = true by unfold lenGood; rw [decide_eq_true (show isqrt N ≤ 9223372036854775807 by omega), decide_eq_true h1]; rfl] at this
    rw [wi64, show (isqrt N + 9223372036854775808) % 18446744073709551616 - 9223372036854775808 = isqrt N by omega]
    simpa using this
theorem lenEnd_no {t : TypeId} {o : Bool} {N X : Int} {K : KC} (h1 : 170141183460469231731687303715884105728 ≤ N) (hK : KLen t o N K) : lenEnd t o false X K := by
  have := hK [0] fun p h => h
  unfold lenV at this
  rw [show lenGood N = false by unfold lenGood; rw [decide_eq_false (show ¬ N < 170141183460469231731687303715884105728 by omega), Bool.false_and]] at this
  refine Br.of (fun _ => ?_) fun h => by cases h
  simpa using this

theorem okW_eq (A p : Int) : okW A p = in128 (A + p) := by unfold okW; rw [wv_wide, wv_wide]
theorem accW_eq (A p : Int) (h : okW A p = true) : accW A p = A + p := by unfold accW; rw [h, wv_wide, wv_wide]; rfl

theorem len3_ok (o : Bool) (x y z : Int) : CallOK Try.prog 28 [.ptr 0 0, .int .i64 x, .int .i64 y, .int .i64 z] [some (.cells mT [.bool o])]
    (.int .i64 (lenV (x * x + y * y + z * z))) [some (.cells mT [.bool (o || !lenGood (x * x + y * y + z * z))])] [0] :=
  runD_ok 5 k5 4 (fun p hp => by simp at hp; subst hp; exact Nat.zero_lt_one) fun ⟨_, hx, hy, hz, _⟩ _ K hK => by
    have hx' : -9223372036854775808 ≤ x ∧ x ≤ 9223372036854775807 := hx
    have hy' : -9223372036854775808 ≤ y ∧ y ≤ 9223372036854775807 := hy
    have hz' : -9223372036854775808 ≤ z ∧ z ≤ 9223372036854775807 := hz
    have e : ∀ K, runU 5 k5 4 28 [.ptr 0 0, .int .i64 x, .int .i64 y, .int .i64 z] [some (.cells mT [.bool o])] K =
      (fun p q r => Br (!okW 0 p) (lenEnd mT o (okW 0 p) (accW 0 p) K)
        (Br (!okW (accW 0 p) q) (lenEnd mT o (okW (accW 0 p) q) (accW (accW 0 p) q) K)
          (Br (!okW (accW (accW 0 p) q) r) (lenEnd mT o (okW (accW (accW 0 p) q) r) (accW (accW (accW 0 p) q) r) K)
            (lenEnd mT o (okW (accW (accW 0 p) q) r) (accW (accW (accW 0 p) q) r) K)))) (x * x) (y * y) (z * z) := fun K => by kernel_rfl
    rw [e]
    have hp := mul_range hx'.1 hx'.2 hx'.1 hx'.2
    have hq := mul_range hy'.1 hy'.2 hy'.1 hy'.2
    have hr := mul_range hz'.1 hz'.2 hz'.1 hz'.2
    have hp0 : 0 ≤ x * x := by rw [← Int.natAbs_mul_self]; omega
    have hq0 : 0 ≤ y * y := by rw [← Int.natAbs_mul_self]; omega
    have hr0 : 0 ≤ z * z := by rw [← Int.natAbs_mul_self]; omega
    have hK' : KLen mT o (x * x + y * y + z * z) K := hK
    generalize x * x = p at *
    generalize y * y = q at *
    generalize z * z = r at *
    have in_iff : ∀ v : Int, 0 ≤ v → in128 v = decide (v < 170141183460469231731687303715884105728) := fun v hv => by
      unfold in128; rw [decide_eq_true (show -170141183460469231731687303715884105728 ≤ v by omega), Bool.true_and]
    show Br _ _ _
    have h1 : okW 0 p = true := by rw [okW_eq, in_iff _ (by omega), decide_eq_true (by omega)]
    rw [h1, accW_eq _ _ h1, Int.zero_add]
    refine Br.of (fun h => by cases h) fun _ => ?_
    cases h2 : okW p q with
    | false =>
      rw [okW_eq, in_iff _ (by omega)] at h2
      have := of_decide_eq_false h2
      exact Br.of (fun _ => lenEnd_no (N := p + q + r) (by omega) hK') fun h => by cases h
    | true =>
      rw [accW_eq _ _ h2]
      rw [okW_eq, in_iff _ (by omega)] at h2
      have := of_decide_eq_true h2
      refine Br.of (fun h => by cases h) fun _ => ?_
      cases h3 : okW (p + q) r with
      | false =>
        rw [okW_eq, in_iff _ (by omega)] at h3
        have := of_decide_eq_false h3
        exact Br.of (fun _ => lenEnd_no (N := p + q + r) (by omega) hK') fun h => by cases h
      | true =>
        rw [accW_eq _ _ h3]
        rw [okW_eq, in_iff _ (by omega)] at h3
        have := of_decide_eq_true h3
        refine Br.of (fun h => by cases h) fun _ => ?_
        exact lenEnd_law (by omega) (by omega) hK'
end Go.Proofs.Ytheedafdaolooaa
