import Derived.Test.YtheedafdaolooaaExt
namespace Go.Proofs.Ytheedafdaolooaa
open Go.Se
set_option maxRecDepth 100000

/-- What a call comes to: by its text, and what is known. -/
noncomputable abbrev run (B : Know Try.prog) (n : Nat) (k : FuncId) (xs : List SV) (σ : List (Option SB)) (K : KC) : Prop :=
  calls (tab.env B (fun _ => 0) (fun _ => false)) (keepW []) B.dom n k xs σ K
theorem run_ok (B : Know Try.prog) (n : Nat) {k : FuncId} {xs : List SV} {σ : List (Option SB)} {v : SV} {σ' : List (Option SB)} {d : List Nat}
    (h : okL xs → okS σ → ∀ K : KC, K v σ' d → run B n k xs σ K) : CallOK Try.prog k xs σ v σ' d := callOK_of_calls (R := []) tab B fun h1 h2 => h h1 h2 _ ⟨rfl, rfl, rfl⟩
/-- The same, with loops unrolled so far. -/
noncomputable abbrev runU (u : Nat) (B : Know Try.prog) (n : Nat) (k : FuncId) (xs : List SV) (σ : List (Option SB)) (K : KC) : Prop :=
  calls (tab.env B (fun _ => u) (fun _ => false)) (keepW []) B.dom n k xs σ K
theorem runU_ok (u : Nat) (B : Know Try.prog) (n : Nat) {k : FuncId} {xs : List SV} {σ : List (Option SB)} {v : SV} {σ' : List (Option SB)} {d : List Nat}
    (h : okL xs → okS σ → ∀ K : KC, K v σ' d → runU u B n k xs σ K) : CallOK Try.prog k xs σ v σ' d := callOK_of_calls (R := []) tab B fun h1 h2 => h h1 h2 _ ⟨rfl, rfl, rfl⟩
theorem fin {K : KC} {v v' : SV} {σ : List (Option SB)} {d : List Nat} (h : K v σ d) (e : v' = v) : K v' σ d := e ▸ h

def m32 (x : Int) : Int := IntKind.u64.wrap ↑(BitVec.ofInt IntKind.u64.bits x &&& BitVec.ofInt IntKind.u64.bits 4294967295).toNat
def mulT (a b : Int) : Int := IntKind.u64.wrap (IntKind.u64.wrap (a.fdiv 4294967296 * m32 b) + (IntKind.u64.wrap (m32 a * m32 b)).fdiv 4294967296)
def mulHi (a b : Int) : Int := IntKind.u64.wrap (IntKind.u64.wrap (IntKind.u64.wrap (a.fdiv 4294967296 * b.fdiv 4294967296) + (mulT a b).fdiv 4294967296) + (IntKind.u64.wrap (m32 (mulT a b) + IntKind.u64.wrap (m32 a * b.fdiv 4294967296))).fdiv 4294967296)

theorem mulHi_eq {a b : Int} (ha : 0 ≤ a) (ha' : a ≤ 18446744073709551615) (hb : 0 ≤ b) (hb' : b ≤ 18446744073709551615) : mulHi a b = a * b / 18446744073709551616 := by
  have hm : ∀ x : Int, 0 ≤ x → x ≤ 18446744073709551615 → m32 x = x % 4294967296 := fun x h h' => by
    unfold m32; rw [wu64]; show (((BitVec.ofInt 64 x &&& BitVec.ofInt 64 4294967295).toNat : Nat) : Int) % _ = _
    rw [and_m32 x h h']; omega
  obtain ⟨h0, h1, h2, h3, h4, h5, h6, h7, h8⟩ := mul_hi ha ha' hb hb' rfl rfl rfl rfl
  have hf : ∀ x : Int, x.fdiv 4294967296 = x / 4294967296 := fun x => fdiv_pos x (by decide)
  have hT : mulT a b = a / 4294967296 * (b % 4294967296) + (a % 4294967296 * (b % 4294967296)) / 4294967296 := by
    unfold mulT
    rw [hm a ha ha', hm b hb hb']
    simp only [wu64, hf]
    omega
  unfold mulHi
  rw [hm a ha ha', hm (mulT a b) (by rw [hT]; omega) (by rw [hT]; omega)]
  simp only [wu64, hf]
  rw [hT]
  generalize a / 4294967296 * (b / 4294967296) = p at *
  generalize a / 4294967296 * (b % 4294967296) = q at *
  generalize a % 4294967296 * (b / 4294967296) = r at *
  generalize a % 4294967296 * (b % 4294967296) = s at *
  omega

theorem mul64_ok (a b : Int) : CallOK Try.prog 44 [.int .u64 a, .int .u64 b] [] (.tup [.int .u64 (a * b / 18446744073709551616), .int .u64 (a * b % 18446744073709551616)]) [] [] :=
  run_ok k0 2 fun ⟨ha, hb, _⟩ _ K hK => by
    have e : ∀ K, run k0 2 44 [.int .u64 a, .int .u64 b] [] K = K (.tup [.int .u64 (mulHi a b), .int .u64 (IntKind.u64.wrap (a * b))]) [] [] := fun K => by kernel_rfl
    rw [e, mulHi_eq ha.1 ha.2 hb.1 hb.2, wu64]
    exact hK

theorem of_ok (a : Int) : CallOK Try.prog 38 [.int .i64 a] [] (wideSV a) [] [] :=
  run_ok k0 2 fun ⟨ha, _⟩ _ K hK => by
    have e : ∀ K, run k0 2 38 [.int .i64 a] [] K = K (.agg [.int .i64 (a.fdiv 9223372036854775808), .int .u64 (IntKind.u64.wrap a)]) [] [] := fun K => by kernel_rfl
    have ha' : -9223372036854775808 ≤ a ∧ a ≤ 9223372036854775807 := ha
    rw [e, wu64, fdiv_pos _ (by decide)]
    exact fin hK (wide_eq (by omega) (by omega) (by omega))
end Go.Proofs.Ytheedafdaolooaa
