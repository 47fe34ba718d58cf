import Derived.Test.YthohgogofenamaaGreatRi
import Derived.Test.YthohgogofenamaaGreatSeRefM
import Derived.Test.YthohgogofenamaaGreatSeTrig
import Derived.Test.YthohgogofenamaaGreatQuat
namespace Go.Proofs.YthohgogofenamaaGreat
open Go.Se
set_option maxRecDepth 100000
theorem rsin_entry (t : Int) (K : KC) : run q7 2 88 [.int .u32 t] [] K = rsinW t K := by kernel_rfl
theorem rsin_ok (t : Int) : CallOK Tryz.prog 88 [.int .u32 t] [] (.int .i64 (sinF t)) [] [] :=
  run_ok q7 2 fun ⟨ht, _⟩ _ K hK => by
    rw [rsin_entry]
    exact rsinW_law ht.1 ht.2 hK
def cSinR : List SV → List (Option SB) → Out
  | [.int .u32 t], [] => some (.int .i64 (sinF t), [], [])
  | _, _ => none
def cCosR : List SV → List (Option SB) → Out
  | [.int .u32 t], [] => some (.int .i64 (cosF t), [], [])
  | _, _ => none
noncomputable def q8 : Know Tryz.prog := q7.add 88 (one cSinR) (one_sat fun xs σ v σ' d h => by
    unfold cSinR at h; split at h <;> cases h; exact rsin_ok _)
theorem rcos_ok (t : Int) : CallOK Tryz.prog 87 [.int .u32 t] [] (.int .i64 (cosF t)) [] [] :=
  run_ok q8 2 fun _ _ K hK => by
    have e : ∀ K, run q8 2 87 [.int .u32 t] [] K = K (.int .i64 (sinF (IntKind.u32.wrap (t + 1073741824)))) [] [] := fun K => by kernel_rfl
    rw [e, wu32]
    exact hK
noncomputable def q9 : Know Tryz.prog := q8.add 87 (one cCosR) (one_sat fun xs σ v σ' d h => by
    unfold cCosR at h; split at h <;> cases h; exact rcos_ok _)
theorem sinF_range {t : Int} (h0 : 0 ≤ t) (h1 : t ≤ 4294967295) : -4294967296 ≤ sinF t ∧ sinF t ≤ 4294967296 := by
  have hr : ∀ r : Int, 0 ≤ r → r ≤ 1073741824 → 0 ≤ sinR r ∧ sinR r ≤ 4294967296 := fun r => sinR_range
  have key : ∀ r : Int, 0 ≤ r → r ≤ 1073741824 → -4294967296 ≤ (bif decide (t / 1073741824 ≥ 2) then IntKind.i64.wrap (0 - sinR r) else sinR r) ∧ (bif decide (t / 1073741824 ≥ 2) then IntKind.i64.wrap (0 - sinR r) else sinR r) ≤ 4294967296 := fun r a b => by
    have := hr r a b
    cases decide (t / 1073741824 ≥ 2)
    · simp only [cond_false]; omega
    · simp only [cond_true, wi64]; omega
  unfold sinF
  show -4294967296 ≤ (bif decide (t / 1073741824 ≥ 2) then IntKind.i64.wrap (0 - sinR _) else sinR _) ∧ (bif decide (t / 1073741824 ≥ 2) then IntKind.i64.wrap (0 - sinR _) else sinR _) ≤ 4294967296
  cases t / 1073741824 % 2 == 1
  · simp only [cond_false]; exact key _ (by omega) (by omega)
  · simp only [cond_true]; exact key _ (by omega) (by omega)
theorem rholds_ok (x y t : Int) : CallOK Tryz.prog 79 [.int .i64 x, .int .i64 y, .int .u32 t] [] (.bool (holdsF x y t)) [] [] :=
  run_ok (q9) 2 fun ⟨hx, hy, ht, _⟩ _ K hK => by
    have hx' : -9223372036854775808 ≤ x ∧ x ≤ 9223372036854775807 := hx
    have hy' : -9223372036854775808 ≤ y ∧ y ≤ 9223372036854775807 := hy
    have ht' : 0 ≤ t ∧ t ≤ 4294967295 := ht
    have E : ∀ K, run q9 2 79 [.int .i64 x, .int .i64 y, .int .u32 t] [] K = If (okX (y * cosF t) && okX (x * sinF t)) (K (.bool (decide (cmpI (nvX (y * cosF t)) (nvX (x * sinF t)) ≥ 0))) [] []) := fun K => by kernel_rfl
    rw [E, okX_eq, okX_eq]
    have s1 := sinF_range ht'.1 ht'.2
    have c1 : -4294967296 ≤ cosF t ∧ cosF t ≤ 4294967296 := by unfold cosF; exact sinF_range (by omega) (by omega)
    have m1 := mul_range hx'.1 hx'.2 (show -9223372036854775808 ≤ sinF t by omega) (by omega)
    have m2 := mul_range hy'.1 hy'.2 (show -9223372036854775808 ≤ cosF t by omega) (by omega)
    rw [nvX_eq (by omega) (by omega), nvX_eq (by omega) (by omega)]
    exact If.mk rfl hK
def cHoldsR : List SV → List (Option SB) → Out
  | [.int .i64 x, .int .i64 y, .int .u32 t], [] => some (.bool (holdsF x y t), [], [])
  | _, _ => none
noncomputable def q10 : Know Tryz.prog := q9.add 79 (one cHoldsR) (one_sat fun xs σ v σ' d h => by
    unfold cHoldsR at h; split at h <;> cases h; exact rholds_ok _ _ _)
def rfiR : List (Nat × Keep) := [(0, ⟨[5, 6, 0, 1, 4], [], [], 0⟩)]
def rfiS (x y t i : Int) : St := ⟨[(5, .int .u32 t), (6, .int .i64 i), (0, .int .i64 x), (1, .int .i64 y), (4, .int .u32 0)], [], 0, [], 28⟩
abbrev rfiPath : List Nat := [1, 1, 1, 0, 1, 0]
noncomputable abbrev rfiE : Env := envL rfiR (fun _ => 0) q10 1
theorem rfi_entry (K : KC) (x y : Int) : runL rfiR (fun _ => 0) q10 2 54 [.int .i64 x, .int .i64 y] [] K =
    Br (holdsF x y 1073741824) (K (.int .u32 1073741824) [] []) (∃ n, loopE rfiE (keepW rfiR 0) Tryz.f54 rfiPath 0 0 K n (rfiS x y 0 29)) := by kernel_rfl
def upT (t i : Int) : Int := IntKind.u32.wrap (t + IntKind.u32.wrap (1 * 2 ^ min (IntKind.u64.wrap i).toNat IntKind.u32.bits))
theorem rfi_round (K : Ex → St → Prop) (x y t i : Int) : roundE rfiE (keepW rfiR 0) Tryz.f54 rfiPath 0 K (rfiS x y t i) =
    Br (decide (i ≥ 0)) (If (decide (0 ≤ IntKind.u64.wrap i)) (Br (holdsF x y (upT t i)) (If (decide (0 ≤ IntKind.u64.wrap i)) (K .normal (rfiS x y (upT t i) (IntKind.i64.wrap (i - 1)))))
      (K .normal (rfiS x y t (IntKind.i64.wrap (i - 1)))))) (K (.exit 0) (rfiS x y t i)) := by kernel_rfl
theorem rfi_after (K : KC) (x y t i : Int) : afterE rfiE (keepW rfiR 0) Tryz.f54 rfiPath 0 K (.exit 0) (rfiS x y t i) = K (.int .u32 t) [] [] := by kernel_rfl
theorem rfi_loop (K : KC) {x y : Int} (hx : 0 ≤ x) (hy : 0 ≤ y) (hK : K (.int .u32 (firstV x y)) [] []) : ∀ (n : Nat) (t P : Int), n ≤ 30 → P = 2 ^ n → 0 ≤ t → t + P ≤ 1073741824 → holdsF x y t = true → (∀ s, t + P ≤ s → s ≤ 1073741824 → holdsF x y s = false) →
    loopE rfiE (keepW rfiR 0) Tryz.f54 rfiPath 0 0 K (n + 1) (rfiS x y t ((n : Int) - 1))
  | 0, t, P, _, hP, h0, h1, h2, h3 => by
    rw [loopE_succ, rfi_round]
    refine Br.of (fun c => absurd (of_decide_eq_true c) (by decide)) fun _ => ?_
    show afterE _ _ _ _ _ _ _ _
    have : P = 1 := by simpa using hP
    subst this
    have : firstV x y = t := (firstV_last hx hy).unique ⟨h0, by omega, h2, fun s hs hs' => h3 s (by omega) hs'⟩
    rw [rfi_after, ← this]
    exact hK
  | n + 1, t, P, hn, hP, h0, h1, h2, h3 => by
    have hP2 : P = 2 ^ n * 2 := by rw [hP, Int.pow_succ]
    have hp0 : (0 : Int) < 2 ^ n := Int.pow_pos (by decide)
    rw [loopE_succ, rfi_round, show (((n + 1 : Nat) : Int) - 1) = (n : Int) by omega]
    have hup : upT t n = t + 2 ^ n := by
      unfold upT
      have : min (IntKind.u64.wrap (n : Int)).toNat IntKind.u32.bits = n := by
        rw [wu64]; show min _ 32 = n; omega
      rw [this]
      simp only [wu32]
      omega
    rw [hup]
    have hw : IntKind.i64.wrap ((n : Int) - 1) = (n : Int) - 1 := by rw [wi64]; omega
    have hg : decide (0 ≤ IntKind.u64.wrap (n : Int)) = true := by rw [wu64]; exact decide_eq_true (by omega)
    rw [hw, hg]
    generalize hq : (2 : Int) ^ n = p at *
    refine Br.of (fun _ => If.mk rfl (Br.of (fun e => If.mk rfl ?_) fun e => ?_)) fun c => absurd (of_decide_eq_false c) (by omega)
    · exact rfi_loop K hx hy hK n (t + p) p (by omega) hq.symm (by omega) (by omega) e fun s hs hs' => h3 s (by omega) hs'
    · exact rfi_loop K hx hy hK n t p (by omega) hq.symm h0 (by omega) h2 fun s hs hs' => no_up hx hy (by omega) hs hs' e
theorem rfirst_ok (x y : Int) (h : (decide (0 ≤ x) && decide (0 ≤ y)) = true) : CallOK Tryz.prog 54 [.int .i64 x, .int .i64 y] [] (.int .u32 (firstV x y)) [] [] :=
  runL_ok rfiR (fun _ => 0) q10 2 (fun _ h => nomatch h) fun _ _ K hK => by
    have hK := hK [] fun _ h => nomatch h
    simp only [Bool.and_eq_true, decide_eq_true_eq] at h
    rw [rfi_entry]
    refine Br.of (fun c => ?_) fun c => ⟨31, rfi_loop K h.1 h.2 hK 30 0 1073741824 (Nat.le_refl _) (by decide) (by omega) (by omega) (holds_zero h.2) fun s hs hs' => ?_⟩
    · have : firstV x y = 1073741824 := (firstV_last h.1 h.2).unique ⟨by omega, by omega, c, fun s hs hs' => by omega⟩
      rw [this] at hK; exact hK
    · rw [show s = 1073741824 by omega]; exact c
def cFirstR : List SV → List (Option SB) → OutIf
  | [.int .i64 x, .int .i64 y], [] => some (decide (0 ≤ x) && decide (0 ≤ y), .int .u32 (firstV x y), [], [])
  | _, _ => none
noncomputable def q11 : Know Tryz.prog := q10.add 54 (oneIf cFirstR) (oneIf_sat fun xs σ v σ' d h => by
    unfold cFirstR at h; split at h
    · simp only [Option.some.injEq, Prod.mk.injEq] at h
      obtain ⟨h1, rfl, rfl, rfl⟩ := h
      exact rfirst_ok _ _ h1
    · cases h)
end Go.Proofs.YthohgogofenamaaGreat

namespace Go.Proofs.YthohgogofenamaaGreat
open Go.Se
set_option maxRecDepth 100000
theorem rtow_entry (x y : Int) (K : KC) : run q11 2 22 [.int .i64 x, .int .i64 y] [] K = rtw x y K := by kernel_rfl
theorem rtow_ok (x y : Int) : CallOK Tryz.prog 22 [.int .i64 x, .int .i64 y] [] (.int .u32 (towV x y)) [] [] :=
  run_ok q11 2 fun ⟨hx, hy, _⟩ _ K hK => by
    rw [rtow_entry]
    exact rtw_law hx.1 hx.2 hy.1 hy.2 hK
def cTowR : List SV → List (Option SB) → Out
  | [.int .i64 x, .int .i64 y], [] => some (.int .u32 (towV x y), [], [])
  | _, _ => none
def cAddR : List SV → List (Option SB) → Out
  | [.ptr 0 0, .int .i64 a, .int .i64 b], [some (.cells 60 [.bool o])] => some (.int .i64 (sat64 (a + b)), [some (.cells rT [.bool (o || over64 (a + b))])], [0])
  | _, _ => none
def cSubR : List SV → List (Option SB) → Out
  | [.ptr 0 0, .int .i64 a, .int .i64 b], [some (.cells 60 [.bool o])] => some (.int .i64 (sat64 (a - b)), [some (.cells rT [.bool (o || over64 (a - b))])], [0])
  | _, _ => none
def cMulR : List SV → List (Option SB) → Out
  | [.ptr 0 0, .int .i64 a, .int .i64 b], [some (.cells 60 [.bool o])] => some (.int .i64 (sat64 (rne32 (a * b))), [some (.cells rT [.bool (o || over64 (rne32 (a * b)))])], [0])
  | _, _ => none
noncomputable def q12 : Know Tryz.prog := (((q11.add 22 (one cTowR) (one_sat fun xs σ v σ' d h => by
    unfold cTowR at h; split at h <;> cases h; exact rtow_ok _ _)).add 28 (one cAddR) (one_sat fun xs σ v σ' d h => by
    unfold cAddR at h; split at h <;> cases h; exact rAdd_ok _ _ _)).add 23 (one cSubR) (one_sat fun xs σ v σ' d h => by
    unfold cSubR at h; split at h <;> cases h; exact rSub_ok _ _ _)).add 56 (one cMulR) (one_sat fun xs σ v σ' d h => by
    unfold cMulR at h; split at h <;> cases h; exact rMul_ok _ _ _)
end Go.Proofs.YthohgogofenamaaGreat

namespace Go.Proofs.YthohgogofenamaaGreat
open Go.Se
set_option maxRecDepth 100000
def sumB (a b : Int) : Bool := in128 (nvX a + nvX b)
def sumV (a b : Int) : Int := bif sumB a b then nvX a + nvX b else 0
def lenQ (o ok : Bool) (n : Int) (K : KC) : Prop :=
  Br (!ok) (K (.int .i64 9223372036854775807) [some (.cells rT [.bool true])] [0]) (Br (decide (n > 9223372036854775807)) (K (.int .i64 9223372036854775807) [some (.cells rT [.bool true])] [0]) (K (.int .i64 (IntKind.i64.wrap n)) [some (.cells rT [.bool o])] []))
def lenP (o ok : Bool) (S : Int) (K : KC) : Prop := Br ok (If (okX S && decide (nvX S < 170141183460469231731687303715884105728)) (lenQ o ok (isqrt (nvX S)) K)) (lenQ o ok 0 K)
def lenM (o ok : Bool) (S p : Int) (K : KC) : Prop := Br ok (If (okX S && okX p) (lenP o (sumB S p) (sumV S p) K)) (lenP o ok S K)
def lenN (o ok : Bool) (S p r : Int) (K : KC) : Prop := Br ok (If (okX S && okX p) (lenM o (sumB S p) (sumV S p) r K)) (lenM o ok S r K)
theorem rlen_entry (o : Bool) (w x y z : Int) (K : KC) : run q12 2 53 [.ptr 0 0, .int .i64 w, .int .i64 x, .int .i64 y, .int .i64 z] [some (.cells rT [.bool o])] K =
    If (okX (w * w) && okX (x * x)) (lenN o (sumB (w * w) (x * x)) (sumV (w * w) (x * x)) (y * y) (z * z) K) := by kernel_rfl
theorem lenP_yes {o : Bool} {N : Int} {K : KC} (h0 : 0 ≤ N) (h1 : N < 170141183460469231731687303715884105728) (hK : KLen rT o N K) : lenP o true N K := by
  unfold lenP
  rw [okX_eq, nvX_eq (by omega) (by omega)]
  obtain ⟨a, b, c, d⟩ := isqrt_ok h0 h1
  refine Br.of (fun _ => If.mk (by rw [decide_eq_true h1]; rfl) ?_) fun h => by cases h
  unfold lenQ
  refine Br.of (fun h => by cases h) fun _ => Br.of (fun c1 => ?_) fun c1 => ?_
  · have c1' := of_decide_eq_true c1
    have := hK [0] fun p h => h
    unfold lenV at this
    rw [show lenGood N = false by unfold lenGood; rw [decide_eq_false (show ¬ isqrt N ≤ 9223372036854775807 by omega), Bool.and_false]] at this
    simpa using this
  · have c1' := of_decide_eq_false c1
    have := hK [] fun p h => nomatch h
    unfold lenV at this
    rw [show lenGood N = true by unfold lenGood; rw [decide_eq_true (show isqrt N ≤ 9223372036854775807 by omega), decide_eq_true h1]; rfl] at this
    rw [wi64, show (isqrt N + 9223372036854775808) % 18446744073709551616 - 9223372036854775808 = isqrt N by omega]
    simpa using this
theorem lenP_no {o : Bool} {N S : Int} {K : KC} (h1 : 170141183460469231731687303715884105728 ≤ N) (hK : KLen rT o N K) : lenP o false S K := by
  have := hK [0] fun p h => h
  unfold lenV at this
  rw [show lenGood N = false by unfold lenGood; rw [decide_eq_false (show ¬ N < 170141183460469231731687303715884105728 by omega), Bool.false_and]] at this
  refine Br.of (fun h => by cases h) fun _ => ?_
  unfold lenQ
  refine Br.of (fun _ => ?_) fun h => by cases h
  simpa using this
theorem sum_cases {S p : Int} (h0 : 0 ≤ S) (h1 : S < 170141183460469231731687303715884105728) (h2 : 0 ≤ p) (h3 : p < 170141183460469231731687303715884105728) :
    (S + p < 170141183460469231731687303715884105728 ∧ sumB S p = true ∧ sumV S p = S + p) ∨ (170141183460469231731687303715884105728 ≤ S + p ∧ sumB S p = false) := by
  have e : sumB S p = in128 (S + p) := by unfold sumB; rw [nvX_eq (by omega) (by omega), nvX_eq (by omega) (by omega)]
  cases hb : in128 (S + p) with
  | true =>
    refine .inl ⟨((in128_iff _).1 hb).2, by rw [e, hb], ?_⟩
    unfold sumV
    rw [e, hb, nvX_eq (by omega) (by omega), nvX_eq (by omega) (by omega)]; rfl
  | false =>
    refine .inr ⟨?_, by rw [e, hb]⟩
    refine Int.le_of_not_gt fun hgt => ?_
    rw [(in128_iff _).2 (by omega)] at hb; cases hb
theorem lenM_law {o : Bool} {S p : Int} {K : KC} (h0 : 0 ≤ S) (h1 : S < 170141183460469231731687303715884105728) (h2 : 0 ≤ p) (h3 : p < 170141183460469231731687303715884105728) (hK : KLen rT o (S + p) K) : lenM o true S p K := by
  unfold lenM
  refine Br.of (fun _ => If.mk (by rw [okX_eq, okX_eq]; rfl) ?_) fun h => by cases h
  rcases sum_cases h0 h1 h2 h3 with ⟨a, b, c⟩ | ⟨a, b⟩
  · rw [b, c]; exact lenP_yes (by omega) a hK
  · rw [b]; exact lenP_no a hK
theorem lenM_no {o : Bool} {N S p : Int} {K : KC} (h1 : 170141183460469231731687303715884105728 ≤ N) (hK : KLen rT o N K) : lenM o false S p K :=
  Br.of (fun h => by cases h) fun _ => lenP_no h1 hK
theorem rlen4_ok (o : Bool) (w x y z : Int) : CallOK Tryz.prog 53 [.ptr 0 0, .int .i64 w, .int .i64 x, .int .i64 y, .int .i64 z] [some (.cells rT [.bool o])]
    (.int .i64 (lenV (w * w + x * x + y * y + z * z))) [some (.cells rT [.bool (o || !lenGood (w * w + x * x + y * y + z * z))])] [0] :=
  runD_ok 0 q12 2 (fun p hp => by simp at hp; subst hp; exact Nat.zero_lt_one) fun ⟨_, hw, hx, hy, hz, _⟩ _ K hK => by
    have hw' : -9223372036854775808 ≤ w ∧ w ≤ 9223372036854775807 := hw
    have hx' : -9223372036854775808 ≤ x ∧ x ≤ 9223372036854775807 := hx
    have hy' : -9223372036854775808 ≤ y ∧ y ≤ 9223372036854775807 := hy
    have hz' : -9223372036854775808 ≤ z ∧ z ≤ 9223372036854775807 := hz
    show run q12 2 _ _ _ K
    rw [rlen_entry]
    have hs := mul_range hw'.1 hw'.2 hw'.1 hw'.2
    have hp := mul_range hx'.1 hx'.2 hx'.1 hx'.2
    have hq := mul_range hy'.1 hy'.2 hy'.1 hy'.2
    have hr := mul_range hz'.1 hz'.2 hz'.1 hz'.2
    have hs0 := sq_pos w
    have hp0 := sq_pos x
    have hq0 := sq_pos y
    have hr0 := sq_pos z
    have hK' : KLen rT o (w * w + x * x + y * y + z * z) K := hK
    generalize w * w = s at *
    generalize x * x = p at *
    generalize y * y = q at *
    generalize z * z = r at *
    refine If.mk (by rw [okX_eq, okX_eq]; rfl) ?_
    unfold lenN
    rcases sum_cases hs0 (by omega) hp0 (by omega) with ⟨a, b, c⟩ | ⟨a, b⟩
    · rw [b, c]
      refine Br.of (fun _ => If.mk (by rw [okX_eq, okX_eq]; rfl) ?_) fun h => by cases h
      rcases sum_cases (show 0 ≤ s + p by omega) (by omega) hq0 (by omega) with ⟨a', b', c'⟩ | ⟨a', b'⟩
      · rw [b', c']; exact lenM_law (by omega) a' hr0 (by omega) hK'
      · rw [b']; exact lenM_no (N := s + p + q + r) (by omega) hK'
    · rw [b]
      exact Br.of (fun h => by cases h) fun _ => lenM_no (N := s + p + q + r) (by omega) hK'
def cLen4R : List SV → List (Option SB) → Out
  | [.ptr 0 0, .int .i64 w, .int .i64 x, .int .i64 y, .int .i64 z], [some (.cells 60 [.bool o])] => some (.int .i64 (lenV (w * w + x * x + y * y + z * z)), [some (.cells rT [.bool (o || !lenGood (w * w + x * x + y * y + z * z))])], [0])
  | _, _ => none
noncomputable def q13 : Know Tryz.prog := q12.add 53 (one cLen4R) (one_sat fun xs σ v σ' d h => by
    unfold cLen4R at h; split at h <;> cases h; exact rlen4_ok _ _ _ _ _)
theorem rlen3_ok (o : Bool) (x y z : Int) : CallOK Tryz.prog 21 [.ptr 0 0, .int .i64 x, .int .i64 y, .int .i64 z] [some (.cells rT [.bool o])]
    (.int .i64 (lenV (x * x + y * y + z * z))) [some (.cells rT [.bool (o || !lenGood (x * x + y * y + z * z))])] [0] :=
  runD_ok 0 q13 2 (fun p hp => by simp at hp; subst hp; exact Nat.zero_lt_one) fun _ _ K hK => by
    have E : ∀ K, runU 0 q13 2 21 [.ptr 0 0, .int .i64 x, .int .i64 y, .int .i64 z] [some (.cells rT [.bool o])] K =
      K (.int .i64 (lenV (0 * 0 + x * x + y * y + z * z))) [some (.cells rT [.bool (o || !lenGood (0 * 0 + x * x + y * y + z * z))])] [0] := fun K => by kernel_rfl
    rw [E, Int.mul_zero, Int.zero_add]
    exact hK _ fun _ h => h
def cLen3R : List SV → List (Option SB) → Out
  | [.ptr 0 0, .int .i64 x, .int .i64 y, .int .i64 z], [some (.cells 60 [.bool o])] => some (.int .i64 (lenV (x * x + y * y + z * z)), [some (.cells rT [.bool (o || !lenGood (x * x + y * y + z * z))])], [0])
  | _, _ => none
noncomputable def q14 : Know Tryz.prog := q13.add 21 (one cLen3R) (one_sat fun xs σ v σ' d h => by
    unfold cLen3R at h; split at h <;> cases h; exact rlen3_ok _ _ _ _)
end Go.Proofs.YthohgogofenamaaGreat

namespace Go.Proofs.YthohgogofenamaaGreat
open Go.Se
set_option maxRecDepth 100000
theorem rmat_ok (o : Bool) (w x y z : Int) : CallOK Tryz.prog 24 [.ptr 0 0, .agg [.int .i64 w, .int .i64 x, .int .i64 y, .int .i64 z]] [some (.cells rT [.bool o])]
    (.agg (matV w x y z)) [some (.cells rT [.bool (matO w x y z o)])] [0] :=
  runD_ok 0 q14 6 zero_lt fun _ _ K hK => by
    have e : ∀ K, runU 0 q14 6 24 [.ptr 0 0, .agg [.int .i64 w, .int .i64 x, .int .i64 y, .int .i64 z]] [some (.cells rT [.bool o])] K = K (.agg (matV w x y z)) [some (.cells rT [.bool (rmatO w x y z o)])] [0] := fun K => by kernel_rfl
    rw [e, rmatO_eq]; exact hK _ fun _ h => h
theorem rdot_ok (o : Bool) (a b c x y z : Int) : CallOK Tryz.prog 57 [.ptr 0 0, .agg [.int .i64 a, .int .i64 b, .int .i64 c], .agg [.int .i64 x, .int .i64 y, .int .i64 z]] [some (.cells rT [.bool o])]
    (.int .i64 (dotV a b c x y z)) [some (.cells rT [.bool (dotO a b c x y z o)])] [0] :=
  runD_ok 0 q14 6 zero_lt fun _ _ K hK => by
    have e : ∀ K, runU 0 q14 6 57 [.ptr 0 0, .agg [.int .i64 a, .int .i64 b, .int .i64 c], .agg [.int .i64 x, .int .i64 y, .int .i64 z]] [some (.cells rT [.bool o])] K = K (.int .i64 (dotV a b c x y z)) [some (.cells rT [.bool (rdotO a b c x y z o)])] [0] := fun K => by kernel_rfl
    rw [e, rdotO_eq]; exact hK _ fun _ h => h
def cMatR : List SV → List (Option SB) → Out
  | [.ptr 0 0, .agg [.int .i64 w, .int .i64 x, .int .i64 y, .int .i64 z]], [some (.cells 60 [.bool o])] => some (.agg (matV w x y z), [some (.cells rT [.bool (matO w x y z o)])], [0])
  | _, _ => none
def cDotR : List SV → List (Option SB) → Out
  | [.ptr 0 0, .agg [.int .i64 a, .int .i64 b, .int .i64 c], .agg [.int .i64 x, .int .i64 y, .int .i64 z]], [some (.cells 60 [.bool o])] => some (.int .i64 (dotV a b c x y z), [some (.cells rT [.bool (dotO a b c x y z o)])], [0])
  | _, _ => none
noncomputable def q15 : Know Tryz.prog := (q14.add 24 (one cMatR) (one_sat fun xs σ v σ' d h => by
    unfold cMatR at h; split at h <;> cases h; exact rmat_ok _ _ _ _ _)).add 57 (one cDotR) (one_sat fun xs σ v σ' d h => by
    unfold cDotR at h; split at h <;> cases h; exact rdot_ok _ _ _ _ _ _ _)
end Go.Proofs.YthohgogofenamaaGreat

namespace Go.Proofs.YthohgogofenamaaGreat
open Go.Se
set_option maxRecDepth 100000
abbrev rnrId : FuncId := 49
def rnrR : List (Nat × Keep) := [(0, ⟨[3, 0, 2], [], [], 0⟩)]
def rnrS (X Y : Nat → Int) (n : Nat) (i : Int) : St := ⟨[(3, .int .i64 i), (0, .ro n 2 (farCells X Y)), (2, .bool false)], [], 0, [], 40⟩
abbrev rnrPath : List Nat := [1, 0, 1, 0]
noncomputable abbrev rnrE : Env := envL rnrR (fun _ => 0) q15 1
theorem rnr_entry (K : KC) (X Y : Nat → Int) (n : Nat) : runL rnrR (fun _ => 0) q15 2 rnrId [.ro n 2 (farCells X Y)] [] K =
    ∃ k, loopE rnrE (keepW rnrR 0) Tryz.f49 rnrPath 0 0 K k (rnrS X Y n 0) := by kernel_rfl
def farQ (g : Bool) (x y : Int) (F T : Prop) : Prop :=
  If g (Br (decide (x > 281474976710656)) F (If g (Br (decide (x < -281474976710656)) F (If g (Br (decide (y > 281474976710656)) F (If g (Br (decide (y < -281474976710656)) F T)))))))
theorem rnr_round (K : Ex → St → Prop) (X Y : Nat → Int) (n i : Nat) : roundE rnrE (keepW rnrR 0) Tryz.f49 rnrPath 0 K (rnrS X Y n i) =
    Br (decide ((i : Int) < n)) (farQ (decide (0 ≤ (i : Int)) && decide ((i : Int) < n)) (X i) (Y i) (K .ret (rnrS X Y n i)) (K .normal (rnrS X Y n (IntKind.i64.wrap (i + 1))))) (K (.exit 0) (rnrS X Y n i)) := by kernel_rfl
theorem rnr_ret (K : KC) (X Y : Nat → Int) (n : Nat) (i : Int) : afterE rnrE (keepW rnrR 0) Tryz.f49 rnrPath 0 K .ret (rnrS X Y n i) = K (.bool false) [] [] := by kernel_rfl
theorem rnr_after (K : KC) (X Y : Nat → Int) (n : Nat) (i : Int) : afterE rnrE (keepW rnrR 0) Tryz.f49 rnrPath 0 K (.exit 0) (rnrS X Y n i) = K (.bool true) [] [] := by kernel_rfl
theorem farQ_law {g : Bool} {x y : Int} {F T : Prop} (hg : g = true) (hF : farB x y = true → F) (hT : farB x y = false → T) : farQ g x y F T := by
  subst hg
  have hb : farB x y = true ↔ (x > 281474976710656 ∨ x < -281474976710656 ∨ y > 281474976710656 ∨ y < -281474976710656) := by
    unfold farB
    simp only [Bool.or_eq_true, decide_eq_true_eq]
    split <;> split <;> omega
  have hb' : ¬ (x > 281474976710656 ∨ x < -281474976710656 ∨ y > 281474976710656 ∨ y < -281474976710656) → farB x y = false := fun h => by
    cases hf : farB x y with
    | false => rfl
    | true => exact absurd (hb.1 hf) h
  refine If.mk rfl (Br.of (fun c1 => hF (hb.2 ?_)) fun c1 => If.mk rfl (Br.of (fun c2 => hF (hb.2 ?_)) fun c2 => If.mk rfl (Br.of (fun c3 => hF (hb.2 ?_)) fun c3 => If.mk rfl (Br.of (fun c4 => hF (hb.2 ?_)) fun c4 => hT (hb' ?_))))) <;>
    (try simp only [decide_eq_true_eq, decide_eq_false_iff_not] at c1) <;> (try simp only [decide_eq_true_eq, decide_eq_false_iff_not] at c2) <;> (try simp only [decide_eq_true_eq, decide_eq_false_iff_not] at c3) <;> (try simp only [decide_eq_true_eq, decide_eq_false_iff_not] at c4) <;> omega
theorem rnr_loop (K : KC) (X Y : Nat → Int) (n : Nat) (hn : n < 9223372036854775808) : ∀ (f i : Nat), i + f = n → K (.bool (decide (farFrom X Y f i < 0))) [] [] →
    loopE rnrE (keepW rnrR 0) Tryz.f49 rnrPath 0 0 K (f + 1) (rnrS X Y n i)
  | f, i, h, hK => by
    rw [loopE_succ, rnr_round]
    refine Br.of (fun c1 => farQ_law ?_ (fun c2 => ?_) fun c2 => ?_) fun c1 => ?_
    · have := of_decide_eq_true c1
      simp only [Bool.and_eq_true, decide_eq_true_eq]; omega
    · have c1' := of_decide_eq_true c1
      show afterE _ _ _ _ _ _ _ _
      rw [rnr_ret]
      cases f with
      | zero => omega
      | succ f =>
        unfold farFrom at hK; rw [c2] at hK
        simp only [cond_true] at hK
        rw [decide_eq_false (show ¬ (i : Int) < 0 by omega)] at hK
        exact hK
    · have c1' := of_decide_eq_true c1
      cases f with
      | zero => omega
      | succ f =>
        unfold farFrom at hK; rw [c2] at hK
        rw [wi64, show ((i : Int) + 1 + 9223372036854775808) % 18446744073709551616 - 9223372036854775808 = ((i + 1 : Nat) : Int) by omega]
        exact rnr_loop K X Y n hn f (i + 1) (by omega) hK
    · have c1' := of_decide_eq_false c1
      show afterE _ _ _ _ _ _ _ _
      rw [rnr_after]
      cases f with
      | zero => exact hK
      | succ f => omega
theorem rnr_ok (X Y : Nat → Int) (n : Nat) : CallOK Tryz.prog rnrId [.ro n 2 (farCells X Y)] [] (.bool (decide (farFrom X Y n 0 < 0))) [] [] :=
  runL_ok rnrR (fun _ => 0) q15 2 (fun _ h => nomatch h) fun ⟨⟨hl, _⟩, _⟩ _ K hK => by
    rw [rnr_entry]
    exact ⟨n + 1, rnr_loop K X Y n hl n 0 (by omega) (hK [] fun _ h => nomatch h)⟩
theorem rnr1_ok (t : TypeId) (x y : Int) : CallOK Tryz.prog rnrId [.arr 0 0 1 1] [some (.cells t [.int .i64 x, .int .i64 y])] (.bool (!farB x y)) [some (.cells t [.int .i64 x, .int .i64 y])] [] :=
  runU_ok 3 q15 2 fun _ _ K hK => by
    have e : ∀ K, runU 3 q15 2 rnrId [.arr 0 0 1 1] [some (.cells t [.int .i64 x, .int .i64 y])] K = farQ true x y (K (.bool false) [some (.cells t [.int .i64 x, .int .i64 y])] []) (K (.bool true) [some (.cells t [.int .i64 x, .int .i64 y])] []) := fun K => by kernel_rfl
    rw [e]
    refine farQ_law rfl (fun c => ?_) fun c => ?_ <;> rw [c] at hK <;> exact hK
def cNearR : List SV → List (Option SB) → KC → Prop
  | [.ro n 2 g], [], K => pts g ∧ K (.bool (decide (farFrom (fun i => px (g i)) (fun i => py (g i)) n 0 < 0))) [] []
  | [.arr 0 0 1 1], [some (.cells t [.int .i64 x, .int .i64 y])], K => K (.bool (!farB x y)) [some (.cells t [.int .i64 x, .int .i64 y])] []
  | _, _, _ => False
theorem rnr_sat (xs : List SV) (σ : List (Option SB)) : Sat Tryz.prog rnrId xs σ (cNearR xs σ) := by
  intro K hK
  unfold cNearR at hK
  split at hK
  · rename_i n g
    obtain ⟨hp, hK⟩ := hK
    refine ⟨_, _, _, hK, ?_⟩
    have := rnr_ok (fun i => px (g i)) (fun i => py (g i)) n
    rw [← pts_eq hp] at this
    exact this
  · exact ⟨_, _, _, hK, rnr1_ok _ _ _⟩
  · exact hK.elim
noncomputable def q16 : Know Tryz.prog := q15.add rnrId cNearR rnr_sat

abbrev rneId : FuncId := 20
def rneR : List (Nat × Keep) := [(0, ⟨[5, 7, 0, 3, 6, 4], [0, 2], [2, 3], 3⟩)]
def nCells (B : Int) : List SV := .bool (decide (B < 0)) :: digL (absI B)
def rneS (X Y : Nat → Int) (a b : Int) (n : Nat) (i c B : Int) : St :=
  ⟨[(5, .int .i64 c), (7, .int .i64 i), (0, .ro n 2 (farCells X Y)), (3, .ptr 0 0), (6, .ptr 2 0), (4, .int .i64 0)],
    [(0, some (.cells 70 [.int .i64 a, .int .i64 b])), (2, some (.cells 111 (nCells B)))], 3, [2, 3], 65⟩
abbrev rnePath : List Nat := [1, 1, 1, 1, 0, 1, 0]
noncomputable abbrev rneE : Env := envL rneR (fun _ => 0) q16 2
theorem rne_entry (K : KC) (X Y : Nat → Int) (a b : Int) (n : Nat) : runL rneR (fun _ => 0) q16 3 rneId [.ro n 2 (farCells X Y), .agg [.int .i64 a, .int .i64 b]] [] K =
    (pts (farCells X Y) ∧ Br (!decide (farFrom X Y n 0 < 0)) (K (.int .i64 (-1)) [] []) (Br (!!farB a b) (K (.int .i64 (-1)) [] [])
      (∃ k, loopE rneE (keepW rneR 0) Tryz.f20 rnePath 0 0 K k (rneS X Y a b n 0 (-1) 0)))) := by kernel_rfl
theorem rne_round (K : Ex → St → Prop) (X Y : Nat → Int) (a b : Int) (n i : Nat) (c B : Int) : roundE rneE (keepW rneR 0) Tryz.f20 rnePath 0 K (rneS X Y a b n i c B) =
    Br (decide ((i : Int) < n)) (If (decide (0 ≤ (i : Int)) && decide ((i : Int) < n)) (If (decide (0 ≤ (i : Int)) && decide ((i : Int) < n)) ((fun p q => If (okX p && okX q) ((fun D =>
      Br (decide (c < 0)) (K .normal (rneS X Y a b n (IntKind.i64.wrap (i + 1)) i D))
        (If (okX D && okX B) (Br (decide (cmpI (nvX D) (nvX B) < 0)) (K .normal (rneS X Y a b n (IntKind.i64.wrap (i + 1)) i D))
          (K .normal (rneS X Y a b n (IntKind.i64.wrap (i + 1)) c B))))) (sumV p q)))
      (IntKind.i64.wrap (X i - a) * IntKind.i64.wrap (X i - a)) (IntKind.i64.wrap (Y i - b) * IntKind.i64.wrap (Y i - b)))))
      (K (.exit 0) (rneS X Y a b n i c B)) := by kernel_rfl
theorem rne_after (K : KC) (X Y : Nat → Int) (a b : Int) (n : Nat) (i c B : Int) : afterE rneE (keepW rneR 0) Tryz.f20 rnePath 0 K (.exit 0) (rneS X Y a b n i c B) = K (.int .i64 c) [] [] := by kernel_rfl
theorem distF_range (x y a b : Int) (hx : -9223372036854775808 ≤ IntKind.i64.wrap (x - a) ∧ IntKind.i64.wrap (x - a) ≤ 9223372036854775807) (hy : -9223372036854775808 ≤ IntKind.i64.wrap (y - b) ∧ IntKind.i64.wrap (y - b) ≤ 9223372036854775807) :
    0 ≤ distF x y a b ∧ distF x y a b < 170141183460469231731687303715884105728 ∧ sumV (IntKind.i64.wrap (x - a) * IntKind.i64.wrap (x - a)) (IntKind.i64.wrap (y - b) * IntKind.i64.wrap (y - b)) = distF x y a b := by
  have m1 := mul_range hx.1 hx.2 hx.1 hx.2
  have m2 := mul_range hy.1 hy.2 hy.1 hy.2
  have s1 := sq_pos (IntKind.i64.wrap (x - a))
  have s2 := sq_pos (IntKind.i64.wrap (y - b))
  unfold distF
  show 0 ≤ (bif in128 (IntKind.i64.wrap (x - a) * IntKind.i64.wrap (x - a) + IntKind.i64.wrap (y - b) * IntKind.i64.wrap (y - b)) then IntKind.i64.wrap (x - a) * IntKind.i64.wrap (x - a) + IntKind.i64.wrap (y - b) * IntKind.i64.wrap (y - b) else 0) ∧ (bif in128 (IntKind.i64.wrap (x - a) * IntKind.i64.wrap (x - a) + IntKind.i64.wrap (y - b) * IntKind.i64.wrap (y - b)) then IntKind.i64.wrap (x - a) * IntKind.i64.wrap (x - a) + IntKind.i64.wrap (y - b) * IntKind.i64.wrap (y - b) else 0) < _ ∧ _ = (bif in128 (IntKind.i64.wrap (x - a) * IntKind.i64.wrap (x - a) + IntKind.i64.wrap (y - b) * IntKind.i64.wrap (y - b)) then IntKind.i64.wrap (x - a) * IntKind.i64.wrap (x - a) + IntKind.i64.wrap (y - b) * IntKind.i64.wrap (y - b) else 0)
  unfold sumV sumB
  rw [nvX_eq (by omega) (by omega), nvX_eq (by omega) (by omega)]
  generalize IntKind.i64.wrap (x - a) * IntKind.i64.wrap (x - a) = p at *
  generalize IntKind.i64.wrap (y - b) * IntKind.i64.wrap (y - b) = q at *
  cases h : in128 (p + q)
  · simp only [cond_false, and_true]; omega
  · have := (in128_iff _).1 h
    simp only [cond_true, and_true]; omega
theorem wrap_range (x : Int) : -9223372036854775808 ≤ IntKind.i64.wrap x ∧ IntKind.i64.wrap x ≤ 9223372036854775807 := by rw [wi64]; omega
theorem rne_loop (K : KC) (X Y : Nat → Int) (a b : Int) (n : Nat) (hn : n < 9223372036854775808) : ∀ (f i : Nat) (c B : Int), i + f = n → 0 ≤ B → B < 170141183460469231731687303715884105728 → K (.int .i64 (nearF X Y a b f i c B)) [] [] →
    loopE rneE (keepW rneR 0) Tryz.f20 rnePath 0 0 K (f + 1) (rneS X Y a b n i c B)
  | f, i, c, B, h, h0, h1, hK => by
    rw [loopE_succ, rne_round]
    obtain ⟨d0, d1, d2⟩ := distF_range (X i) (Y i) a b (wrap_range _) (wrap_range _)
    refine Br.of (fun c1 => If.mk ?_ (If.mk ?_ ?_)) fun c1 => ?_
    · have := of_decide_eq_true c1
      simp only [Bool.and_eq_true, decide_eq_true_eq]; omega
    · have := of_decide_eq_true c1
      simp only [Bool.and_eq_true, decide_eq_true_eq]; omega
    · have c1' := of_decide_eq_true c1
      refine If.mk (by rw [okX_eq, okX_eq]; rfl) ?_
      rw [d2]
      show Br _ _ _
      rw [okX_eq, okX_eq, nvX_eq (by omega) (by omega), nvX_eq (by omega) (by omega), wi64, show ((i : Int) + 1 + 9223372036854775808) % 18446744073709551616 - 9223372036854775808 = ((i + 1 : Nat) : Int) by omega]
      have hcmp : decide (cmpI (distF (X i) (Y i) a b) B < 0) = decide (distF (X i) (Y i) a b < B) := by
        unfold cmpI
        by_cases h1 : distF (X i) (Y i) a b < B
        · rw [decide_eq_true h1]; rfl
        · rw [decide_eq_false h1]
          by_cases h2 : B < distF (X i) (Y i) a b
          · rw [decide_eq_true h2]; rfl
          · rw [decide_eq_false h2]; rfl
      rw [hcmp]
      cases f with
      | zero => omega
      | succ f =>
        unfold nearF at hK
        refine Br.of (fun c2 => ?_) fun c2 => If.mk rfl (Br.of (fun c3 => ?_) fun c3 => ?_)
        · rw [c2] at hK
          exact rne_loop K X Y a b n hn f (i + 1) i _ (by omega) d0 d1 hK
        · rw [c2, c3] at hK
          exact rne_loop K X Y a b n hn f (i + 1) i _ (by omega) d0 d1 hK
        · rw [c2, c3] at hK
          exact rne_loop K X Y a b n hn f (i + 1) c B (by omega) h0 h1 hK
    · have c1' := of_decide_eq_false c1
      show afterE _ _ _ _ _ _ _ _
      rw [rne_after]
      cases f with
      | zero => exact hK
      | succ f => omega
theorem rne_ok (X Y : Nat → Int) (n : Nat) (a b : Int) : CallOK Tryz.prog rneId [.ro n 2 (farCells X Y), .agg [.int .i64 a, .int .i64 b]] [] (.int .i64 (nearV X Y n a b)) [] [] :=
  runL_ok rneR (fun _ => 0) q16 3 (fun _ h => nomatch h) fun ⟨⟨hl, _⟩, _⟩ _ K hK => by
    have hK := hK [] fun _ h => nomatch h
    rw [rne_entry]
    unfold nearV at hK
    have e : (!decide (farFrom X Y n 0 < 0)) = decide (farFrom X Y n 0 ≥ 0) := by
      rw [Bool.eq_iff_iff]; simp only [Bool.not_eq_true', decide_eq_false_iff_not, decide_eq_true_eq]; omega
    rw [e, Bool.not_not]
    refine ⟨fun _ => rfl, Br.of (fun c => ?_) fun c => Br.of (fun c2 => ?_) fun c2 => ?_⟩
    · rw [c, Bool.or_true] at hK; exact hK
    · rw [c2, Bool.true_or] at hK; exact hK
    · rw [c, c2] at hK
      exact ⟨n + 1, rne_loop K X Y a b n hl n 0 (-1) 0 (by omega) (by omega) (by omega) hK⟩
def cNearestR : List SV → List (Option SB) → KC → Prop
  | [.ro n 2 g, .agg [.int .i64 a, .int .i64 b]], [], K => pts g ∧ K (.int .i64 (nearV (fun i => px (g i)) (fun i => py (g i)) n a b)) [] []
  | _, _, _ => False
theorem rne_sat (xs : List SV) (σ : List (Option SB)) : Sat Tryz.prog rneId xs σ (cNearestR xs σ) := by
  intro K hK
  unfold cNearestR at hK
  split at hK
  · rename_i n g a b
    obtain ⟨hp, hK⟩ := hK
    refine ⟨_, _, _, hK, ?_⟩
    have := rne_ok (fun i => px (g i)) (fun i => py (g i)) n a b
    rw [← pts_eq hp] at this
    exact this
  · exact hK.elim
noncomputable def q17 : Know Tryz.prog := q16.add rneId cNearestR rne_sat
end Go.Proofs.YthohgogofenamaaGreat

namespace Go.Proofs.YthohgogofenamaaGreat
open Go.Se
set_option maxRecDepth 100000
theorem rsigned_ok (x : Int) : CallOK Tryz.prog 26 [.int .u32 x] [] (.int .i64 (signedV x)) [] [] :=
  run_ok q17 2 fun ⟨hx, _⟩ _ K hK => by
    have hx' : 0 ≤ x ∧ x ≤ 4294967295 := hx
    have e : ∀ K, run q17 2 26 [.int .u32 x] [] K = Br (decide (IntKind.i64.wrap x ≥ 2147483648)) (K (.int .i64 (IntKind.i64.wrap (IntKind.i64.wrap x - 4294967296))) [] []) (K (.int .i64 (IntKind.i64.wrap x)) [] []) := fun K => by kernel_rfl
    rw [e]
    have hw : IntKind.i64.wrap x = x := by rw [wi64]; omega
    rw [hw]
    unfold signedV at hK
    refine Br.of (fun c => ?_) fun c => ?_ <;> rw [c] at hK
    · have := of_decide_eq_true c
      rw [show IntKind.i64.wrap (x - 4294967296) = x - 4294967296 by rw [wi64]; omega]; exact hK
    · exact hK
def cSignedR : List SV → List (Option SB) → Out
  | [.int .u32 x], [] => some (.int .i64 (signedV x), [], [])
  | _, _ => none
noncomputable def q18 : Know Tryz.prog := q17.add 26 (one cSignedR) (one_sat fun xs σ v σ' d h => by
    unfold cSignedR at h; split at h <;> cases h; exact rsigned_ok _)
theorem rthink_entry (o : Bool) (Vc Vs : Val) (X Y Z : Nat → Int) (n m : Nat) (K : KC) : runU 0 q18 6 6 [.ptr 0 0, argSV tab.tt 8 37 Vc, .ro n 2 (farCells X Y), .ro m 1 (cellsZ Z), argSV tab.tt 8 54 Vs] [some (.cells rT [.bool o])] K =
    rthinkP rT (whatSeen Vc Vs) n m X Y Z o K := by kernel_rfl
theorem rthink_ok (o : Bool) (Vc Vs : Val) (X Y Z : Nat → Int) (n m : Nat) (hn : n ≤ 1000000) : CallOK Tryz.prog 6 [.ptr 0 0, argSV tab.tt 8 37 Vc, .ro n 2 (farCells X Y), .ro m 1 (cellsZ Z), argSV tab.tt 8 54 Vs] (overC rT o)
    (thinkV (whatSeen Vc Vs) n m X Y Z) (overC rT (thinkO (whatSeen Vc Vs) n m X Y Z o)) [0] :=
  runD_ok 0 q18 6 zero_lt fun ⟨_, hc, _⟩ _ K hK => by
    rw [car_agg] at hc
    have hs : 0 ≤ Vc.int [23] ∧ Vc.int [23] ≤ 4294967295 := okL_get hc (car_steer Vc)
    show runU 0 q18 6 _ _ [some (.cells rT [.bool o])] K
    rw [rthink_entry]
    exact rthinkP_law hn hs.1 hs.2 hK
def cThinkR (xs : List SV) (σ : List (Option SB)) (K : KC) : Prop :=
  ∃ (o : Bool) (Vc Vs : Val) (X Y Z : Nat → Int) (n m : Nat), (xs = [.ptr 0 0, argSV tab.tt 8 37 Vc, .ro n 2 (farCells X Y), .ro m 1 (cellsZ Z), argSV tab.tt 8 54 Vs] ∧ σ = overC rT o ∧ n ≤ 1000000) ∧
    K (thinkV (whatSeen Vc Vs) n m X Y Z) (overC rT (thinkO (whatSeen Vc Vs) n m X Y Z o)) [0]
theorem rthink_sat (xs : List SV) (σ : List (Option SB)) : Sat Tryz.prog 6 xs σ (cThinkR xs σ) := by
  rintro K ⟨o, Vc, Vs, X, Y, Z, n, m, ⟨rfl, rfl, hn⟩, hK⟩
  exact ⟨_, _, _, hK, rthink_ok o Vc Vs X Y Z n m hn⟩
end Go.Proofs.YthohgogofenamaaGreat

