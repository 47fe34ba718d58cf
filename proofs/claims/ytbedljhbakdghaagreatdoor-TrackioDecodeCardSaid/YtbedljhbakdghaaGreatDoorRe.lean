import Derived.Test.YtbedljhbakdghaaGreatDoorRd
import Derived.Test.YtbedljhbakdghaaGreatDoorRoot
import Derived.Test.YtbedljhbakdghaaGreatDoorSeNum
namespace Go.Proofs.YtbedljhbakdghaaGreatDoor
open Go.Se
set_option maxRecDepth 100000
noncomputable def q4 : Know Tryz.prog := q3
end Go.Proofs.YtbedljhbakdghaaGreatDoor

namespace Go.Proofs.YtbedljhbakdghaaGreatDoor
open Go.Se
set_option maxRecDepth 100000
abbrev sixT : TypeId := 159
def overR : List (Nat × Keep) := [(0, ⟨[8, 2, 3, 4, 5, 6, 7], [0, 1, 2, 3, 4, 5], [4, 5], 6, []⟩)]
def d4 (a b c d : Int) : List SV := [.int .u64 a, .int .u64 b, .int .u64 c, .int .u64 d]
def overS (A B Q R : List SV) (i : Int) : St :=
  ⟨[(8, .int .i64 i), (2, .ptr 0 0), (3, .ptr 1 0), (4, .ptr 2 0), (5, .ptr 3 0), (6, .ptr 4 0), (7, .ptr 5 0)],
    [(0, some (.cells sixT A)), (1, some (.cells sixT B)), (2, some (.cells sixT (d4 0 0 0 0))), (3, some (.cells sixT (d4 0 0 0 0))), (4, some (.cells sixT Q)), (5, some (.cells sixT R))], 6, [4, 5], 33⟩
abbrev overPath : List Nat := [1, 1, 0, 1, 0]
noncomputable abbrev overEn : Env := envL overR (fun _ => 0) q4 1
def digX (X : Int) : List SV := d4 (X % 4294967296) (X / 4294967296 % 4294967296) (X / 18446744073709551616 % 4294967296) (X / 79228162514264337593543950336 % 4294967296)
def digY (X : Int) : List SV := d4 (IntKind.u64.wrap (X % 4294967296 + 1)) (X / 4294967296 % 4294967296) (X / 18446744073709551616 % 4294967296) (X / 79228162514264337593543950336 % 4294967296)
def rooR : List (Nat × Keep) := [(0, ⟨[3, 4, 1, 2], [0], [], 1, []⟩)]
def rooS (s : Bool) (A : List SV) (n i : Int) : St := ⟨[(3, .int .u64 n), (4, .int .i64 i), (1, .ptr 0 0), (2, .int .u64 0)], [(0, some (.cells 161 (.bool s :: A)))], 1, [], 26⟩
abbrev rooPath : List Nat := [1, 1, 1, 0, 1, 0]
noncomputable abbrev rooE : Env := envL rooR (fun _ => 0) q4 1
theorem roo_entry (K : KC) (s : Bool) (a b c d : Int) : runL rooR (fun _ => 0) q4 2 115 [.agg [.bool s, .int .u64 a, .int .u64 b, .int .u64 c, .int .u64 d]] [] K =
    Br (decide (cmpI (nv s a b c d) 0 ≤ 0)) (K (.int .u64 0) [] []) (∃ n, loopE rooE (keepW rooR 0) Tryz.f115 rooPath 0 0 K n (rooS s (d4 a b c d) 0 63)) := by kernel_rfl
def upN (n i : Int) : Int := IntKind.u64.wrap (n + IntKind.u64.wrap (1 * 2 ^ min (IntKind.u64.wrap i).toNat IntKind.u64.bits))
theorem roo_round (K : Ex → St → Prop) (s : Bool) (a b c d n i : Int) : roundE rooE (keepW rooR 0) Tryz.f115 rooPath 0 K (rooS s (d4 a b c d) n i) =
    Br (decide (i ≥ 0)) (If (decide (0 ≤ IntKind.u64.wrap i)) (If (dOk a b c d && dOkD (upN n i * upN n i)) (Br (!decide (dv a b c d < dvS (upN n i * upN n i)))
      (K .normal (rooS s (d4 a b c d) (upN n i) (IntKind.i64.wrap (i - 1)))) (K .normal (rooS s (d4 a b c d) n (IntKind.i64.wrap (i - 1)))))))
      (K (.exit 0) (rooS s (d4 a b c d) n i)) := by kernel_rfl
theorem roo_after (K : KC) (s : Bool) (a b c d n i : Int) : afterE rooE (keepW rooR 0) Tryz.f115 rooPath 0 K (.exit 0) (rooS s (d4 a b c d) n i) = K (.int .u64 n) [] [] := by kernel_rfl
theorem roo_loop (K : KC) {s : Bool} {a b c d A : Int} (hA : Is4 A a b c d) (hA1 : A < 170141183460469231731687303715884105728) (hK : K (.int .u64 (isqrt A)) [] []) : ∀ (n : Nat) (x P : Int), n ≤ 64 → P = 2 ^ n → 0 ≤ x → x * x ≤ A → A < (x + P) * (x + P) → x + P ≤ 18446744073709551616 →
    loopE rooE (keepW rooR 0) Tryz.f115 rooPath 0 0 K (n + 1) (rooS s (d4 a b c d) x ((n : Int) - 1))
  | 0, x, P, _, hP, h0, h1, h2, h3 => by
    rw [loopE_succ, roo_round]
    refine Br.of (fun c => absurd (of_decide_eq_true c) (by decide)) fun _ => ?_
    show afterE _ _ _ _ _ _ _ _
    have : P = 1 := by simpa using hP
    subst this
    rw [roo_after, ← isqrt_unique (Int.le_trans (sq_pos x) h1) hA1 h0 h1 h2]
    exact hK
  | n + 1, x, P, hn, hP, h0, h1, h2, h3 => by
    have hp : ∀ k : Nat, (0 : Int) < 2 ^ k := fun k => Int.pow_pos (by decide)
    have hP2 : P = 2 ^ n * 2 := by rw [hP, Int.pow_succ]
    have hp0 := hp n
    rw [loopE_succ, roo_round, show (((n + 1 : Nat) : Int) - 1) = (n : Int) by omega]
    have hup : upN x n = x + 2 ^ n := by
      unfold upN
      have : min (IntKind.u64.wrap (n : Int)).toNat IntKind.u64.bits = n := by
        rw [wu64]; show min _ 64 = n; omega
      rw [this]
      simp only [wu64]
      omega
    rw [hup]
    generalize hq : (2 : Int) ^ n = p at *
    have hm : (x + p) * (x + p) < 340282366920938463463374607431768211456 := by
      have : (x + p) * (x + p) ≤ 18446744073709551615 * 18446744073709551615 := Int.mul_le_mul (by omega) (by omega) (by omega) (by omega)
      omega
    have hm0 : 0 ≤ (x + p) * (x + p) := sq_pos _
    have hw : IntKind.i64.wrap ((n : Int) - 1) = (n : Int) - 1 := by rw [wi64]; omega
    rw [hA.eq, dOkD_eq, dvS_eq hm0 hm, show dOk a b c d = true from dOk_iff.2 ⟨hA.a1, hA.b1, hA.c1, hA.d1⟩, hw]
    refine Br.of (fun _ => If.mk ?_ (If.mk rfl (Br.of (fun e => ?_) fun e => ?_))) fun c => absurd (of_decide_eq_false c) (by omega)
    · rw [wu64]; exact decide_eq_true (by omega)
    · have : ¬ A < (x + p) * (x + p) := by simpa using e
      refine roo_loop K hA hA1 hK n (x + p) p (by omega) hq.symm (by omega) (by omega) ?_ (by omega)
      rw [show x + p + p = x + P by omega]; exact h2
    · have : A < (x + p) * (x + p) := by simpa using e
      exact roo_loop K hA hA1 hK n x p (by omega) hq.symm h0 h1 this (by omega)
theorem rootN_ok (s : Bool) (a b c d : Int) (hx : (dOk a b c d && decide (nv s a b c d < 170141183460469231731687303715884105728)) = true) : CallOK Tryz.prog 115 [.agg [.bool s, .int .u64 a, .int .u64 b, .int .u64 c, .int .u64 d]] []
    (.int .u64 (isqrt (nv s a b c d))) [] [] :=
  runL_ok rooR (fun _ => 0) q4 2 (fun _ h => nomatch h) fun ⟨⟨_, ha, hb, hc, hd, _⟩, _⟩ _ K hK => by
    have ha' : 0 ≤ a ∧ a ≤ 18446744073709551615 := ha
    have hb' : 0 ≤ b ∧ b ≤ 18446744073709551615 := hb
    have hc' : 0 ≤ c ∧ c ≤ 18446744073709551615 := hc
    have hd' : 0 ≤ d ∧ d ≤ 18446744073709551615 := hd
    have hK := hK [] fun _ h => nomatch h
    rw [Bool.and_eq_true, dOk_iff, decide_eq_true_eq] at hx
    obtain ⟨⟨x1, x2, x3, x4⟩, hx⟩ := hx
    rw [roo_entry]
    have hn : (s = true ∧ nv s a b c d = -dv a b c d) ∨ (s = false ∧ nv s a b c d = dv a b c d) := by cases s <;> simp [nv]
    refine Br.of (fun e => ?_) fun e => ⟨65, ?_⟩
    · have : nv s a b c d ≤ 0 := by
        have e := of_decide_eq_true e
        refine Int.le_of_not_gt fun hgt => ?_
        unfold cmpI at e
        rw [decide_eq_false (show ¬ nv s a b c d < 0 by omega), decide_eq_true (show 0 < nv s a b c d from hgt)] at e
        exact absurd e (by decide)
      unfold isqrt at hK
      rw [decide_eq_true this] at hK
      exact hK
    · have h0 : 0 < nv s a b c d := by
        have e := of_decide_eq_false e
        refine Int.lt_of_not_ge fun hle => e ?_
        unfold cmpI
        cases decide (nv s a b c d < 0)
        · rw [decide_eq_false (show ¬ 0 < nv s a b c d by omega)]; decide
        · show (-1 : Int) ≤ 0; decide
      have hnn : 0 ≤ dv a b c d := by unfold dv; omega
      have he : nv s a b c d = dv a b c d := by rcases hn with ⟨_, h⟩ | ⟨_, h⟩ <;> omega
      rw [he] at hK hx
      exact roo_loop K (A := dv a b c d) ⟨ha'.1, x1, hb'.1, x2, hc'.1, x3, hd'.1, x4, rfl⟩ hx hK 64 0 18446744073709551616 (Nat.le_refl _) (by decide) (by omega) (by omega) (by omega) (by omega)
noncomputable def q5 : Know Tryz.prog := (q4).add 115 (oneIf cRootN) (oneIf_sat fun xs σ v σ' d h => by
    unfold cRootN at h; split at h
    · simp only [Option.some.injEq, Prod.mk.injEq] at h
      obtain ⟨h1, rfl, rfl, rfl⟩ := h
      first | exact rootN_ok h1 | exact rootN_ok _ h1 | exact rootN_ok _ _ h1 | exact rootN_ok _ _ _ h1 | exact rootN_ok _ _ _ _ h1 | exact rootN_ok _ _ _ _ _ h1 | exact rootN_ok _ _ _ _ _ _ h1 | exact rootN_ok _ _ _ _ _ _ _ h1 | exact rootN_ok _ _ _ _ _ _ _ _ h1 | exact rootN_ok _ _ _ _ _ _ _ _ _ h1 | exact rootN_ok _ _ _ _ _ _ _ _ _ _ h1 | exact rootN_ok _ _ _ _ _ _ _ _ _ _ _ h1 | exact rootN_ok _ _ _ _ _ _ _ _ _ _ _ _ h1 | exact rootN_ok (of_decide_eq_true h1) | exact rootN_ok _ (of_decide_eq_true h1) | exact rootN_ok _ _ (of_decide_eq_true h1) | exact rootN_ok _ _ _ (of_decide_eq_true h1) | exact rootN_ok _ _ _ _ (of_decide_eq_true h1) | exact rootN_ok _ _ _ _ _ (of_decide_eq_true h1) | exact rootN_ok _ _ _ _ _ _ (of_decide_eq_true h1) | exact rootN_ok _ _ _ _ _ _ _ (of_decide_eq_true h1) | exact rootN_ok _ _ _ _ _ _ _ _ (of_decide_eq_true h1) | exact rootN_ok _ _ _ _ _ _ _ _ _ (of_decide_eq_true h1) | exact rootN_ok _ _ _ _ _ _ _ _ _ _ (of_decide_eq_true h1) | exact rootN_ok _ _ _ _ _ _ _ _ _ _ _ (of_decide_eq_true h1) | exact rootN_ok _ _ _ _ _ _ _ _ _ _ _ _ (of_decide_eq_true h1)
    · cases h)
end Go.Proofs.YtbedljhbakdghaaGreatDoor

