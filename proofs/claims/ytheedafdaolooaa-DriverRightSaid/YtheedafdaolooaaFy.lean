import Derived.Test.YtheedafdaolooaaFx
import Derived.Test.YtheedafdaolooaaSeFxA
namespace Go.Proofs.Ytheedafdaolooaa
open Go.Se
set_option maxRecDepth 100000

theorem runD_ok (u : Nat) (B : Know Try.prog) (n : Nat) {k : FuncId} {xs : List SV} {σ : List (Option SB)} {v : SV} {σ' : List (Option SB)} {d : List Nat}
    (hl : ∀ p, p ∈ d → p < σ.length)
    (h : okL xs → okS σ → ∀ K : KC, (∀ d', (∀ p, p ∈ d' → p ∈ d) → K v σ' d') → runU u B n k xs σ K) : CallOK Try.prog k xs σ v σ' d :=
  callOK_of_callsD (R := []) tab B hl fun h1 h2 => h h1 h2 _ fun _ hd => ⟨rfl, rfl, hd⟩

abbrev mT : TypeId := 58

theorem fxAdd_ok (o : Bool) (a b : Int) : CallOK Try.prog 30 [.ptr 0 0, .int .i64 a, .int .i64 b] [some (.cells mT [.bool o])] (.int .i64 (sat64 (a + b))) [some (.cells mT [.bool (o || over64 (a + b))])] [0] :=
  runD_ok 0 k4 4 (fun p hp => by simp at hp; subst hp; exact Nat.zero_lt_one) fun ⟨_, ha, hb, _⟩ _ K hK => by
    have ha' : -9223372036854775808 ≤ a ∧ a ≤ 9223372036854775807 := ha
    have hb' : -9223372036854775808 ≤ b ∧ b ≤ 9223372036854775807 := hb
    let X := bif in128 (wv (a / 18446744073709551616) (a % 18446744073709551616) + wv (b / 18446744073709551616) (b % 18446744073709551616)) then wv (a / 18446744073709551616) (a % 18446744073709551616) + wv (b / 18446744073709551616) (b % 18446744073709551616) else 0
    have e : ∀ K, runU 0 k4 4 30 [.ptr 0 0, .int .i64 a, .int .i64 b] [some (.cells mT [.bool o])] K = fitP mT o (X / 18446744073709551616) (X % 18446744073709551616) K := fun K => by kernel_rfl
    rw [e]
    have hX : X = a + b := by
      show (bif _ then _ else _) = _
      rw [wv_wide, wv_wide, show in128 (a + b) = true by unfold in128; simp only [Bool.and_eq_true, decide_eq_true_eq]; omega]; rfl
    rw [hX]
    exact fit_law (by omega) (by omega) (wv_wide _) hK

theorem fxSub_ok (o : Bool) (a b : Int) : CallOK Try.prog 17 [.ptr 0 0, .int .i64 a, .int .i64 b] [some (.cells mT [.bool o])] (.int .i64 (sat64 (a - b))) [some (.cells mT [.bool (o || over64 (a - b))])] [0] :=
  runD_ok 0 k4 4 (fun p hp => by simp at hp; subst hp; exact Nat.zero_lt_one) fun ⟨_, ha, hb, _⟩ _ K hK => by
    have ha' : -9223372036854775808 ≤ a ∧ a ≤ 9223372036854775807 := ha
    have hb' : -9223372036854775808 ≤ b ∧ b ≤ 9223372036854775807 := hb
    let Y := bif in128 (-wv (b / 18446744073709551616) (b % 18446744073709551616)) then -wv (b / 18446744073709551616) (b % 18446744073709551616) else 0
    let X := bif in128 (wv (a / 18446744073709551616) (a % 18446744073709551616) + wv (Y / 18446744073709551616) (Y % 18446744073709551616)) then wv (a / 18446744073709551616) (a % 18446744073709551616) + wv (Y / 18446744073709551616) (Y % 18446744073709551616) else 0
    have e : ∀ K, runU 0 k4 4 17 [.ptr 0 0, .int .i64 a, .int .i64 b] [some (.cells mT [.bool o])] K = fitP mT o (X / 18446744073709551616) (X % 18446744073709551616) K := fun K => by kernel_rfl
    rw [e]
    have hY : Y = -b := by
      show (bif _ then _ else _) = _
      rw [wv_wide, show in128 (-b) = true by unfold in128; simp only [Bool.and_eq_true, decide_eq_true_eq]; omega]; rfl
    have hX : X = a - b := by
      show (bif _ then _ else _) = _
      rw [wv_wide, wv_wide, hY, show in128 (a + -b) = true by unfold in128; simp only [Bool.and_eq_true, decide_eq_true_eq]; omega]
      show a + -b = a - b
      omega
    rw [hX]
    exact fit_law (by omega) (by omega) (wv_wide _) hK

def upX (p : Int) : Int := bif in128 (wv ((p / 18446744073709551616).fdiv 4294967296) (mulLo p) + wv (1 / 18446744073709551616) (1 % 18446744073709551616)) then wv ((p / 18446744073709551616).fdiv 4294967296) (mulLo p) + wv (1 / 18446744073709551616) (1 % 18446744073709551616) else 0
def mulP (t : TypeId) (o : Bool) (p : Int) (K : KC) : Prop :=
  Br (decide (IntKind.u32.wrap (p % 18446744073709551616) > 2147483648)) (fitP t o (upX p / 18446744073709551616) (upX p % 18446744073709551616) K)
    (Br (IntKind.u32.wrap (p % 18446744073709551616) == 2147483648)
      (Br (IntKind.u64.wrap ↑(BitVec.ofInt IntKind.u64.bits (mulLo p) &&& BitVec.ofInt IntKind.u64.bits 1).toNat == 1)
        (fitP t o (upX p / 18446744073709551616) (upX p % 18446744073709551616) K)
        (fitP t o ((p / 18446744073709551616).fdiv 4294967296) (mulLo p) K))
      (fitP t o ((p / 18446744073709551616).fdiv 4294967296) (mulLo p) K))

theorem mulP_law {t : TypeId} {o : Bool} {p : Int} {K : KC} (hr : -85070591730234615865843651857942052864 ≤ p ∧ p ≤ 85070591730234615865843651857942052864) (hK : KFx t o (rne32 p) K) : mulP t o p K := by
  have hw : wv (p / 18446744073709551616 / 4294967296) (p / 4294967296 % 18446744073709551616) = p / 4294967296 := by unfold wv; omega
  have h1 : upX p = p / 4294967296 + 1 := by
    unfold upX
    rw [mulLo_eq, fdiv_pos _ (show (0 : Int) ≤ 4294967296 by decide), hw, wv_wide, show in128 (p / 4294967296 + 1) = true by unfold in128; simp only [Bool.and_eq_true, decide_eq_true_eq]; omega]; rfl
  unfold mulP
  rw [h1, mulLo_eq, fdiv_pos _ (show (0 : Int) ≤ 4294967296 by decide), wu32, wu64]
  have hand : ((((BitVec.ofInt IntKind.u64.bits (p / 4294967296 % 18446744073709551616) &&& BitVec.ofInt IntKind.u64.bits 1).toNat : Nat) : Int) % 18446744073709551616 == 1) = (p / 4294967296 % 2 == 1) := by
    show ((((BitVec.ofInt 64 _ &&& BitVec.ofInt 64 1).toNat : Nat) : Int) % _ == 1) = _
    rw [and_one (by omega) (by omega), show p / 4294967296 % 18446744073709551616 % 2 % 18446744073709551616 = p / 4294967296 % 2 by omega]
  rw [hand, show p % 18446744073709551616 % 4294967296 = p % 4294967296 by omega]
  unfold rne32 at hK
  refine Br.of (fun c1 => ?_) fun c1 => Br.of (fun c2 => Br.of (fun c3 => ?_) fun c3 => ?_) fun c2 => ?_
  · rw [c1] at hK
    exact fit_law (by omega) (by omega) (wv_wide _) hK
  · rw [c1, c2, c3] at hK
    exact fit_law (by omega) (by omega) (wv_wide _) hK
  · rw [c1, c2, c3] at hK
    exact fit_law (by omega) (by omega) hw hK
  · rw [c1, c2] at hK
    exact fit_law (by omega) (by omega) hw hK

theorem fxMul_ok (o : Bool) (a b : Int) : CallOK Try.prog 32 [.ptr 0 0, .int .i64 a, .int .i64 b] [some (.cells mT [.bool o])] (.int .i64 (sat64 (rne32 (a * b)))) [some (.cells mT [.bool (o || over64 (rne32 (a * b)))])] [0] :=
  runD_ok 0 k4 4 (fun p hp => by simp at hp; subst hp; exact Nat.zero_lt_one) fun ⟨_, ha, hb, _⟩ _ K hK => by
    have ha' : -9223372036854775808 ≤ a ∧ a ≤ 9223372036854775807 := ha
    have hb' : -9223372036854775808 ≤ b ∧ b ≤ 9223372036854775807 := hb
    have e : ∀ K, runU 0 k4 4 32 [.ptr 0 0, .int .i64 a, .int .i64 b] [some (.cells mT [.bool o])] K = mulP mT o (a * b) K := fun K => by kernel_rfl
    rw [e]
    exact mulP_law (mul_range ha'.1 ha'.2 hb'.1 hb'.2) hK
end Go.Proofs.Ytheedafdaolooaa
