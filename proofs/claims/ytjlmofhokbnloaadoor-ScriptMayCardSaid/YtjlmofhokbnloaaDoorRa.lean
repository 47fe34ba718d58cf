import Derived.Test.YtjlmofhokbnloaaDoorExt
import Derived.Test.YtjlmofhokbnloaaDoorSeNum
namespace Go.Proofs.YtjlmofhokbnloaaDoor
open Go.Se
set_option maxRecDepth 100000
theorem sizeN_ok (n : Int) : CallOK Tryd.prog 89 [.int .i64 n] [] (.int .u64 (absI n)) [] [] :=
  run_ok k0 2 fun ⟨hn, _⟩ _ K hK => by
    have hn' : -9223372036854775808 ≤ n ∧ n ≤ 9223372036854775807 := hn
    have e : ∀ K, run k0 2 89 [.int .i64 n] [] K = Br (decide (n < 0))
      (K (.int .u64 (IntKind.u64.wrap (IntKind.u64.wrap (IntKind.i64.wrap (0 - IntKind.i64.wrap (n + 1))) + 1))) [] []) (K (.int .u64 (IntKind.u64.wrap n)) [] []) := fun K => by kernel_rfl
    rw [e]
    simp only [wu64, wi64]
    unfold absI at hK
    refine Br.of (fun c => ?_) fun c => ?_ <;> rw [c] at hK <;> refine fin hK (congrArg (SV.int .u64) ?_)
    · have := of_decide_eq_true c
      simp only [cond_true]; omega
    · have := of_decide_eq_false c
      simp only [cond_false]; omega
theorem lowN_ok (n : Int) : CallOK Tryd.prog 103 [.int .u64 n] [] (.int .u64 (n % 4294967296)) [] [] :=
  run_ok k0 2 fun ⟨hn, _⟩ _ K hK => by
    have hn' : 0 ≤ n ∧ n ≤ 18446744073709551615 := hn
    have e : ∀ K, run k0 2 103 [.int .u64 n] [] K = K (.int .u64 (n.tmod 4294967296)) [] [] := fun K => by kernel_rfl
    rw [e, Int.tmod_eq_emod_of_nonneg hn'.1]
    exact hK
noncomputable def q1 : Know Tryd.prog := ((k0).add 89 (one cSizeN) (one_sat fun xs σ v σ' d h => by
    unfold cSizeN at h; split at h <;> cases h; first | exact sizeN_ok | exact sizeN_ok _ | exact sizeN_ok _ _ | exact sizeN_ok _ _ _ | exact sizeN_ok _ _ _ _ | exact sizeN_ok _ _ _ _ _ | exact sizeN_ok _ _ _ _ _ _ | exact sizeN_ok _ _ _ _ _ _ _ | exact sizeN_ok _ _ _ _ _ _ _ _ | exact sizeN_ok _ _ _ _ _ _ _ _ _ | exact sizeN_ok _ _ _ _ _ _ _ _ _ _ | exact sizeN_ok _ _ _ _ _ _ _ _ _ _ _)).add 103 (one cLow) (one_sat fun xs σ v σ' d h => by
    unfold cLow at h; split at h <;> cases h; first | exact lowN_ok | exact lowN_ok _ | exact lowN_ok _ _ | exact lowN_ok _ _ _ | exact lowN_ok _ _ _ _ | exact lowN_ok _ _ _ _ _ | exact lowN_ok _ _ _ _ _ _ | exact lowN_ok _ _ _ _ _ _ _ | exact lowN_ok _ _ _ _ _ _ _ _ | exact lowN_ok _ _ _ _ _ _ _ _ _ | exact lowN_ok _ _ _ _ _ _ _ _ _ _ | exact lowN_ok _ _ _ _ _ _ _ _ _ _ _)
theorem lessN_ok (a b c d e f g h : Int) (hx : (dOk a b c d && dOk e f g h) = true) : CallOK Tryd.prog 101 [.agg [.int .u64 a, .int .u64 b, .int .u64 c, .int .u64 d], .agg [.int .u64 e, .int .u64 f, .int .u64 g, .int .u64 h]] []
    (.bool (decide (dv a b c d < dv e f g h))) [] [] :=
  runU_ok 5 q1 2 fun ⟨⟨ha, hb, hc, hd, _⟩, ⟨he, hf, hg, hh, _⟩, _⟩ _ K hK => by
    have ha' : 0 ≤ a ∧ a ≤ 18446744073709551615 := ha
    have hb' : 0 ≤ b ∧ b ≤ 18446744073709551615 := hb
    have hc' : 0 ≤ c ∧ c ≤ 18446744073709551615 := hc
    have hd' : 0 ≤ d ∧ d ≤ 18446744073709551615 := hd
    have he' : 0 ≤ e ∧ e ≤ 18446744073709551615 := he
    have hf' : 0 ≤ f ∧ f ≤ 18446744073709551615 := hf
    have hg' : 0 ≤ g ∧ g ≤ 18446744073709551615 := hg
    have hh' : 0 ≤ h ∧ h ≤ 18446744073709551615 := hh
    rw [Bool.and_eq_true, dOk_iff, dOk_iff] at hx
    have e : ∀ K, runU 5 q1 2 101 [.agg [.int .u64 a, .int .u64 b, .int .u64 c, .int .u64 d], .agg [.int .u64 e, .int .u64 f, .int .u64 g, .int .u64 h]] [] K =
      Br (d != h) (K (.bool (decide (d < h))) [] []) (Br (c != g) (K (.bool (decide (c < g))) [] []) (Br (b != f) (K (.bool (decide (b < f))) [] []) (Br (a != e) (K (.bool (decide (a < e))) [] []) (K (.bool false) [] [])))) := fun K => by kernel_rfl
    rw [e]
    unfold dv at hK
    refine Br.of (fun h1 => ?_) fun h1 => Br.of (fun h2 => ?_) fun h2 => Br.of (fun h3 => ?_) fun h3 => Br.of (fun h4 => ?_) fun h4 => ?_ <;>
      (try simp only [bne_iff_ne, ne_eq, bne_eq_false_iff_eq] at h1) <;> (try simp only [bne_iff_ne, ne_eq, bne_eq_false_iff_eq] at h2) <;> (try simp only [bne_iff_ne, ne_eq, bne_eq_false_iff_eq] at h3) <;> (try simp only [bne_iff_ne, ne_eq, bne_eq_false_iff_eq] at h4) <;>
      refine fin hK (congrArg SV.bool ?_)
    · exact decide_eq_decide.2 (by omega)
    · exact decide_eq_decide.2 (by omega)
    · exact decide_eq_decide.2 (by omega)
    · exact decide_eq_decide.2 (by omega)
    · exact (decide_eq_false (by omega)).symm
theorem plusN_ok (a b c d e f g h : Int) (hx : (dOk a b c d && dOk e f g h) = true) : CallOK Tryd.prog 102 [.agg [.int .u64 a, .int .u64 b, .int .u64 c, .int .u64 d], .agg [.int .u64 e, .int .u64 f, .int .u64 g, .int .u64 h]] []
    (.tup [.agg (digL (dv a b c d + dv e f g h)), .int .u64 ((dv a b c d + dv e f g h) / 340282366920938463463374607431768211456)]) [] [] :=
  runU_ok 5 q1 2 fun ⟨⟨ha, hb, hc, hd, _⟩, ⟨he, hf, hg, hh, _⟩, _⟩ _ K hK => by
    have ha' : 0 ≤ a ∧ a ≤ 18446744073709551615 := ha
    have hb' : 0 ≤ b ∧ b ≤ 18446744073709551615 := hb
    have hc' : 0 ≤ c ∧ c ≤ 18446744073709551615 := hc
    have hd' : 0 ≤ d ∧ d ≤ 18446744073709551615 := hd
    have he' : 0 ≤ e ∧ e ≤ 18446744073709551615 := he
    have hf' : 0 ≤ f ∧ f ≤ 18446744073709551615 := hf
    have hg' : 0 ≤ g ∧ g ≤ 18446744073709551615 := hg
    have hh' : 0 ≤ h ∧ h ≤ 18446744073709551615 := hh
    rw [Bool.and_eq_true, dOk_iff, dOk_iff] at hx
    have E : ∀ K, runU 5 q1 2 102 [.agg [.int .u64 a, .int .u64 b, .int .u64 c, .int .u64 d], .agg [.int .u64 e, .int .u64 f, .int .u64 g, .int .u64 h]] [] K =
      (fun s0 => (fun s1 => (fun s2 => (fun s3 => K (.tup [.agg [.int .u64 (s0 % 4294967296), .int .u64 (s1 % 4294967296), .int .u64 (s2 % 4294967296), .int .u64 (s3 % 4294967296)], .int .u64 (IntKind.u64.wrap (s3.tdiv 4294967296))]) [] [])
        (IntKind.u64.wrap (IntKind.u64.wrap (d + h) + IntKind.u64.wrap (s2.tdiv 4294967296)))) (IntKind.u64.wrap (IntKind.u64.wrap (c + g) + IntKind.u64.wrap (s1.tdiv 4294967296)))) (IntKind.u64.wrap (IntKind.u64.wrap (b + f) + IntKind.u64.wrap (s0.tdiv 4294967296))))
        (IntKind.u64.wrap (IntKind.u64.wrap (a + e) + 0)) := fun K => by kernel_rfl
    rw [E]
    show K _ _ _
    simp only [u64_tdiv]
    simp only [wu64]
    have hs0 : (a + e) / 4294967296 ≤ 1 ∧ 0 ≤ (a + e) / 4294967296 := by omega
    generalize hk0 : (a + e) / 4294967296 = k0 at hs0
    generalize hk1 : (b + f + k0) / 4294967296 = k1
    have hs1 : k1 ≤ 1 ∧ 0 ≤ k1 := by omega
    generalize hk2 : (c + g + k1) / 4294967296 = k2
    have hs2 : k2 ≤ 1 ∧ 0 ≤ k2 := by omega
    have e0 : ((a + e) % 18446744073709551616 + 0) % 18446744073709551616 = a + e := by omega
    rw [e0, hk0, show ((b + f) % 18446744073709551616 + k0 % 18446744073709551616) % 18446744073709551616 = b + f + k0 by omega, hk1,
      show ((c + g) % 18446744073709551616 + k1 % 18446744073709551616) % 18446744073709551616 = c + g + k1 by omega, hk2,
      show ((d + h) % 18446744073709551616 + k2 % 18446744073709551616) % 18446744073709551616 = d + h + k2 by omega]
    refine fin hK ?_
    rw [dig_mod (X := dv a b c d + dv e f g h) (by rw [dOk_iff]; omega) (by omega) (by omega) (by omega) (by omega) (by unfold dv; omega)]
    congr 4
    unfold dv; omega
theorem minusN_ok (a b c d e f g h : Int) (hx : (dOk a b c d && dOk e f g h && decide (dv e f g h ≤ dv a b c d)) = true) : CallOK Tryd.prog 118 [.agg [.int .u64 a, .int .u64 b, .int .u64 c, .int .u64 d], .agg [.int .u64 e, .int .u64 f, .int .u64 g, .int .u64 h]] []
    (.agg (digL (dv a b c d - dv e f g h))) [] [] :=
  runU_ok 5 q1 2 fun ⟨⟨ha, hb, hc, hd, _⟩, ⟨he, hf, hg, hh, _⟩, _⟩ _ K hK => by
    have ha' : 0 ≤ a ∧ a ≤ 18446744073709551615 := ha
    have hb' : 0 ≤ b ∧ b ≤ 18446744073709551615 := hb
    have hc' : 0 ≤ c ∧ c ≤ 18446744073709551615 := hc
    have hd' : 0 ≤ d ∧ d ≤ 18446744073709551615 := hd
    have he' : 0 ≤ e ∧ e ≤ 18446744073709551615 := he
    have hf' : 0 ≤ f ∧ f ≤ 18446744073709551615 := hf
    have hg' : 0 ≤ g ∧ g ≤ 18446744073709551615 := hg
    have hh' : 0 ≤ h ∧ h ≤ 18446744073709551615 := hh
    simp only [Bool.and_eq_true, dOk_iff, decide_eq_true_eq] at hx
    have E : ∀ K, runU 5 q1 2 118 [.agg [.int .u64 a, .int .u64 b, .int .u64 c, .int .u64 d], .agg [.int .u64 e, .int .u64 f, .int .u64 g, .int .u64 h]] [] K =
      (fun st cr => (fun s0 => (fun s1 => (fun s2 => (fun s3 => K (.agg [.int .u64 (s0 % 4294967296), .int .u64 (s1 % 4294967296), .int .u64 (s2 % 4294967296), .int .u64 (s3 % 4294967296)]) [] [])
        (st d h (cr s2))) (st c g (cr s1))) (st b f (cr s0))) (st a e 0))
        (fun x y k => IntKind.u64.wrap (IntKind.u64.wrap (IntKind.u64.wrap (x + 4294967296) - y) - k)) (fun s => IntKind.u64.wrap (1 - IntKind.u64.wrap (s.tdiv 4294967296))) := fun K => by kernel_rfl
    rw [E]
    dsimp only
    have st : ∀ x y k : Int, 0 ≤ x → x < 4294967296 → 0 ≤ y → y < 4294967296 → 0 ≤ k → k ≤ 1 → IntKind.u64.wrap (IntKind.u64.wrap (IntKind.u64.wrap (x + 4294967296) - y) - k) = x + 4294967296 - y - k := fun x y k _ _ _ _ _ _ => by simp only [wu64]; omega
    have cr : ∀ x y k : Int, 0 ≤ x → x < 4294967296 → 0 ≤ y → y < 4294967296 → 0 ≤ k → k ≤ 1 → IntKind.u64.wrap (1 - IntKind.u64.wrap ((x + 4294967296 - y - k).tdiv 4294967296)) = 1 - (x + 4294967296 - y - k) / 4294967296 := fun x y k _ _ _ _ _ _ => by
      rw [Int.tdiv_eq_ediv_of_nonneg (by omega)]; simp only [wu64]; omega
    obtain ⟨⟨hA, hB⟩, hle⟩ := hx
    rw [st a e 0 (by omega) (by omega) (by omega) (by omega) (by omega) (by omega), cr a e 0 (by omega) (by omega) (by omega) (by omega) (by omega) (by omega)]
    have r0 : 0 ≤ 1 - (a + 4294967296 - e - 0) / 4294967296 ∧ 1 - (a + 4294967296 - e - 0) / 4294967296 ≤ 1 := by omega
    generalize hk0 : 1 - (a + 4294967296 - e - 0) / 4294967296 = k0 at r0 ⊢
    rw [st b f k0 (by omega) (by omega) (by omega) (by omega) r0.1 r0.2, cr b f k0 (by omega) (by omega) (by omega) (by omega) r0.1 r0.2]
    have r1 : 0 ≤ 1 - (b + 4294967296 - f - k0) / 4294967296 ∧ 1 - (b + 4294967296 - f - k0) / 4294967296 ≤ 1 := by omega
    generalize hk1 : 1 - (b + 4294967296 - f - k0) / 4294967296 = k1 at r1 ⊢
    rw [st c g k1 (by omega) (by omega) (by omega) (by omega) r1.1 r1.2, cr c g k1 (by omega) (by omega) (by omega) (by omega) r1.1 r1.2]
    have r2 : 0 ≤ 1 - (c + 4294967296 - g - k1) / 4294967296 ∧ 1 - (c + 4294967296 - g - k1) / 4294967296 ≤ 1 := by omega
    generalize hk2 : 1 - (c + 4294967296 - g - k1) / 4294967296 = k2 at r2 ⊢
    rw [st d h k2 (by omega) (by omega) (by omega) (by omega) r2.1 r2.2]
    refine fin hK (congrArg SV.agg (dig_eq (by rw [dOk_iff]; omega) (by omega) (by omega) (by omega) (by omega) ?_))
    unfold dv at hle ⊢
    omega
theorem zeroN_ok (s : Bool) (a b c d : Int) : CallOK Tryd.prog 104 [.agg [.bool s, .int .u64 a, .int .u64 b, .int .u64 c, .int .u64 d]] [] (.bool (dv a b c d == 0)) [] [] :=
  run_ok q1 2 fun ⟨⟨_, ha, hb, hc, hd, _⟩, _⟩ _ K hK => by
    have ha' : 0 ≤ a ∧ a ≤ 18446744073709551615 := ha
    have hb' : 0 ≤ b ∧ b ≤ 18446744073709551615 := hb
    have hc' : 0 ≤ c ∧ c ≤ 18446744073709551615 := hc
    have hd' : 0 ≤ d ∧ d ≤ 18446744073709551615 := hd
    have E : ∀ K, run q1 2 104 [.agg [.bool s, .int .u64 a, .int .u64 b, .int .u64 c, .int .u64 d]] [] K =
      Br (a == 0) (Br (b == 0) (Br (c == 0) (K (.bool (d == 0)) [] []) (K (.bool false) [] [])) (K (.bool false) [] [])) (K (.bool false) [] []) := fun K => by kernel_rfl
    rw [E]
    unfold dv at hK
    refine Br.of (fun h1 => Br.of (fun h2 => Br.of (fun h3 => ?_) fun h3 => ?_) fun h2 => ?_) fun h1 => ?_ <;> refine fin hK (congrArg SV.bool ?_) <;>
      (try simp only [beq_iff_eq, beq_eq_false_iff_ne, ne_eq] at h1) <;> (try simp only [beq_iff_eq, beq_eq_false_iff_ne, ne_eq] at h2) <;> (try simp only [beq_iff_eq, beq_eq_false_iff_ne, ne_eq] at h3) <;> rw [Bool.eq_iff_iff] <;>
      simp only [beq_iff_eq, Bool.false_eq_true, false_iff] <;> omega
theorem ofN_ok (n : Int) : CallOK Tryd.prog 98 [.int .i64 n] [] (nSV n) [] [] :=
  run_ok q1 2 fun ⟨hn, _⟩ _ K hK => by
    have hn' : -9223372036854775808 ≤ n ∧ n ≤ 9223372036854775807 := hn
    have E : ∀ K, run q1 2 98 [.int .i64 n] [] K = K (.agg [.bool (decide (n < 0)), .int .u64 (absI n % 4294967296), .int .u64 (IntKind.u64.wrap ((absI n).tdiv 4294967296)), .int .u64 0, .int .u64 0]) [] [] := fun K => by kernel_rfl
    rw [E]
    have h0 := absI_nonneg n
    have h1 : absI n < 18446744073709551616 := absI_lt (by omega) (by omega)
    rw [Int.tdiv_eq_ediv_of_nonneg h0, wu64]
    exact fin hK (num_eq (by rw [dOk_iff]; omega) (by omega) (by omega) (by omega) (by omega) rfl (by unfold dv; omega))
end Go.Proofs.YtjlmofhokbnloaaDoor

namespace Go.Proofs.YtjlmofhokbnloaaDoor
open Go.Se
set_option maxRecDepth 100000
def notU (x : Int) : Int := IntKind.u64.wrap ↑(BitVec.ofInt IntKind.u64.bits (if IntKind.u64.signed = true then -1 else IntKind.u64.max) ^^^ BitVec.ofInt IntKind.u64.bits x).toNat
def wordsT (s : Bool) (h l : Int) (K : KC) : Prop :=
  Br s (Br (IntKind.u64.wrap (notU l + 1) == 0) (K (.tup [.int .i64 (IntKind.i64.wrap (IntKind.u64.wrap (notU h + 1))), .int .u64 (IntKind.u64.wrap (notU l + 1)), .bool true]) [] [])
    (K (.tup [.int .i64 (IntKind.i64.wrap (notU h)), .int .u64 (IntKind.u64.wrap (notU l + 1)), .bool true]) [] []))
    (K (.tup [.int .i64 (IntKind.i64.wrap h), .int .u64 l, .bool true]) [] [])
noncomputable def q2 : Know Tryd.prog := (((((q1).add 104 (one cZeroN) (one_sat fun xs σ v σ' d h => by
    unfold cZeroN at h; split at h <;> cases h; first | exact zeroN_ok | exact zeroN_ok _ | exact zeroN_ok _ _ | exact zeroN_ok _ _ _ | exact zeroN_ok _ _ _ _ | exact zeroN_ok _ _ _ _ _ | exact zeroN_ok _ _ _ _ _ _ | exact zeroN_ok _ _ _ _ _ _ _ | exact zeroN_ok _ _ _ _ _ _ _ _ | exact zeroN_ok _ _ _ _ _ _ _ _ _ | exact zeroN_ok _ _ _ _ _ _ _ _ _ _ | exact zeroN_ok _ _ _ _ _ _ _ _ _ _ _)).add 98 (one cOfN) (one_sat fun xs σ v σ' d h => by
    unfold cOfN at h; split at h <;> cases h; first | exact ofN_ok | exact ofN_ok _ | exact ofN_ok _ _ | exact ofN_ok _ _ _ | exact ofN_ok _ _ _ _ | exact ofN_ok _ _ _ _ _ | exact ofN_ok _ _ _ _ _ _ | exact ofN_ok _ _ _ _ _ _ _ | exact ofN_ok _ _ _ _ _ _ _ _ | exact ofN_ok _ _ _ _ _ _ _ _ _ | exact ofN_ok _ _ _ _ _ _ _ _ _ _ | exact ofN_ok _ _ _ _ _ _ _ _ _ _ _)).add 101 (oneIf cLessN) (oneIf_sat fun xs σ v σ' d h => by
    unfold cLessN at h; split at h
    · simp only [Option.some.injEq, Prod.mk.injEq] at h
      obtain ⟨h1, rfl, rfl, rfl⟩ := h
      first | exact lessN_ok h1 | exact lessN_ok _ h1 | exact lessN_ok _ _ h1 | exact lessN_ok _ _ _ h1 | exact lessN_ok _ _ _ _ h1 | exact lessN_ok _ _ _ _ _ h1 | exact lessN_ok _ _ _ _ _ _ h1 | exact lessN_ok _ _ _ _ _ _ _ h1 | exact lessN_ok _ _ _ _ _ _ _ _ h1 | exact lessN_ok _ _ _ _ _ _ _ _ _ h1 | exact lessN_ok _ _ _ _ _ _ _ _ _ _ h1 | exact lessN_ok _ _ _ _ _ _ _ _ _ _ _ h1 | exact lessN_ok _ _ _ _ _ _ _ _ _ _ _ _ h1 | exact lessN_ok (of_decide_eq_true h1) | exact lessN_ok _ (of_decide_eq_true h1) | exact lessN_ok _ _ (of_decide_eq_true h1) | exact lessN_ok _ _ _ (of_decide_eq_true h1) | exact lessN_ok _ _ _ _ (of_decide_eq_true h1) | exact lessN_ok _ _ _ _ _ (of_decide_eq_true h1) | exact lessN_ok _ _ _ _ _ _ (of_decide_eq_true h1) | exact lessN_ok _ _ _ _ _ _ _ (of_decide_eq_true h1) | exact lessN_ok _ _ _ _ _ _ _ _ (of_decide_eq_true h1) | exact lessN_ok _ _ _ _ _ _ _ _ _ (of_decide_eq_true h1) | exact lessN_ok _ _ _ _ _ _ _ _ _ _ (of_decide_eq_true h1) | exact lessN_ok _ _ _ _ _ _ _ _ _ _ _ (of_decide_eq_true h1) | exact lessN_ok _ _ _ _ _ _ _ _ _ _ _ _ (of_decide_eq_true h1)
    · cases h)).add 102 (oneIf cPlusN) (oneIf_sat fun xs σ v σ' d h => by
    unfold cPlusN at h; split at h
    · simp only [Option.some.injEq, Prod.mk.injEq] at h
      obtain ⟨h1, rfl, rfl, rfl⟩ := h
      first | exact plusN_ok h1 | exact plusN_ok _ h1 | exact plusN_ok _ _ h1 | exact plusN_ok _ _ _ h1 | exact plusN_ok _ _ _ _ h1 | exact plusN_ok _ _ _ _ _ h1 | exact plusN_ok _ _ _ _ _ _ h1 | exact plusN_ok _ _ _ _ _ _ _ h1 | exact plusN_ok _ _ _ _ _ _ _ _ h1 | exact plusN_ok _ _ _ _ _ _ _ _ _ h1 | exact plusN_ok _ _ _ _ _ _ _ _ _ _ h1 | exact plusN_ok _ _ _ _ _ _ _ _ _ _ _ h1 | exact plusN_ok _ _ _ _ _ _ _ _ _ _ _ _ h1 | exact plusN_ok (of_decide_eq_true h1) | exact plusN_ok _ (of_decide_eq_true h1) | exact plusN_ok _ _ (of_decide_eq_true h1) | exact plusN_ok _ _ _ (of_decide_eq_true h1) | exact plusN_ok _ _ _ _ (of_decide_eq_true h1) | exact plusN_ok _ _ _ _ _ (of_decide_eq_true h1) | exact plusN_ok _ _ _ _ _ _ (of_decide_eq_true h1) | exact plusN_ok _ _ _ _ _ _ _ (of_decide_eq_true h1) | exact plusN_ok _ _ _ _ _ _ _ _ (of_decide_eq_true h1) | exact plusN_ok _ _ _ _ _ _ _ _ _ (of_decide_eq_true h1) | exact plusN_ok _ _ _ _ _ _ _ _ _ _ (of_decide_eq_true h1) | exact plusN_ok _ _ _ _ _ _ _ _ _ _ _ (of_decide_eq_true h1) | exact plusN_ok _ _ _ _ _ _ _ _ _ _ _ _ (of_decide_eq_true h1)
    · cases h)).add 118 (oneIf cMinusN) (oneIf_sat fun xs σ v σ' d h => by
    unfold cMinusN at h; split at h
    · simp only [Option.some.injEq, Prod.mk.injEq] at h
      obtain ⟨h1, rfl, rfl, rfl⟩ := h
      first | exact minusN_ok h1 | exact minusN_ok _ h1 | exact minusN_ok _ _ h1 | exact minusN_ok _ _ _ h1 | exact minusN_ok _ _ _ _ h1 | exact minusN_ok _ _ _ _ _ h1 | exact minusN_ok _ _ _ _ _ _ h1 | exact minusN_ok _ _ _ _ _ _ _ h1 | exact minusN_ok _ _ _ _ _ _ _ _ h1 | exact minusN_ok _ _ _ _ _ _ _ _ _ h1 | exact minusN_ok _ _ _ _ _ _ _ _ _ _ h1 | exact minusN_ok _ _ _ _ _ _ _ _ _ _ _ h1 | exact minusN_ok _ _ _ _ _ _ _ _ _ _ _ _ h1 | exact minusN_ok (of_decide_eq_true h1) | exact minusN_ok _ (of_decide_eq_true h1) | exact minusN_ok _ _ (of_decide_eq_true h1) | exact minusN_ok _ _ _ (of_decide_eq_true h1) | exact minusN_ok _ _ _ _ (of_decide_eq_true h1) | exact minusN_ok _ _ _ _ _ (of_decide_eq_true h1) | exact minusN_ok _ _ _ _ _ _ (of_decide_eq_true h1) | exact minusN_ok _ _ _ _ _ _ _ (of_decide_eq_true h1) | exact minusN_ok _ _ _ _ _ _ _ _ (of_decide_eq_true h1) | exact minusN_ok _ _ _ _ _ _ _ _ _ (of_decide_eq_true h1) | exact minusN_ok _ _ _ _ _ _ _ _ _ _ (of_decide_eq_true h1) | exact minusN_ok _ _ _ _ _ _ _ _ _ _ _ (of_decide_eq_true h1) | exact minusN_ok _ _ _ _ _ _ _ _ _ _ _ _ (of_decide_eq_true h1)
    · cases h)
end Go.Proofs.YtjlmofhokbnloaaDoor

namespace Go.Proofs.YtjlmofhokbnloaaDoor
open Go.Se
set_option maxRecDepth 100000
end Go.Proofs.YtjlmofhokbnloaaDoor

