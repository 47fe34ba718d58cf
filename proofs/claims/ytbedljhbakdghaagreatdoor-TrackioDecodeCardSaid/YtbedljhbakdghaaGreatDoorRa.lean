import Derived.Test.YtbedljhbakdghaaGreatDoorExt
import Derived.Test.YtbedljhbakdghaaGreatDoorSeNum
namespace Go.Proofs.YtbedljhbakdghaaGreatDoor
open Go.Se
set_option maxRecDepth 100000
theorem sizeN_ok (n : Int) : CallOK Tryz.prog 135 [.int .i64 n] [] (.int .u64 (absI n)) [] [] :=
  run_ok k0 2 fun ⟨hn, _⟩ _ K hK => by
    have hn' : -9223372036854775808 ≤ n ∧ n ≤ 9223372036854775807 := hn
    have e : ∀ K, run k0 2 135 [.int .i64 n] [] K = Br (decide (n < 0))
      (K (.int .u64 (IntKind.u64.wrap (IntKind.u64.wrap (IntKind.i64.wrap (0 - IntKind.i64.wrap (n + 1))) + 1))) [] []) (K (.int .u64 (IntKind.u64.wrap n)) [] []) := fun K => by kernel_rfl
    rw [e]
    simp only [wu64, wi64]
    unfold absI at hK
    refine Br.of (fun c => ?_) fun c => ?_ <;> rw [c] at hK <;> refine fin hK (congrArg (SV.int .u64) ?_)
    · have := of_decide_eq_true c
      simp only [cond_true]; omega
    · have := of_decide_eq_false c
      simp only [cond_false]; omega
theorem lowN_ok (n : Int) : CallOK Tryz.prog 136 [.int .u64 n] [] (.int .u64 (n % 4294967296)) [] [] :=
  run_ok k0 2 fun ⟨hn, _⟩ _ K hK => by
    have hn' : 0 ≤ n ∧ n ≤ 18446744073709551615 := hn
    have e : ∀ K, run k0 2 136 [.int .u64 n] [] K = K (.int .u64 (n.tmod 4294967296)) [] [] := fun K => by kernel_rfl
    rw [e, Int.tmod_eq_emod_of_nonneg hn'.1]
    exact hK
noncomputable def q1 : Know Tryz.prog := ((k0).add 135 (one cSizeN) (one_sat fun xs σ v σ' d h => by
    unfold cSizeN at h; split at h <;> cases h; first | exact sizeN_ok | exact sizeN_ok _ | exact sizeN_ok _ _ | exact sizeN_ok _ _ _ | exact sizeN_ok _ _ _ _ | exact sizeN_ok _ _ _ _ _ | exact sizeN_ok _ _ _ _ _ _ | exact sizeN_ok _ _ _ _ _ _ _ | exact sizeN_ok _ _ _ _ _ _ _ _ | exact sizeN_ok _ _ _ _ _ _ _ _ _ | exact sizeN_ok _ _ _ _ _ _ _ _ _ _ | exact sizeN_ok _ _ _ _ _ _ _ _ _ _ _)).add 136 (one cLow) (one_sat fun xs σ v σ' d h => by
    unfold cLow at h; split at h <;> cases h; first | exact lowN_ok | exact lowN_ok _ | exact lowN_ok _ _ | exact lowN_ok _ _ _ | exact lowN_ok _ _ _ _ | exact lowN_ok _ _ _ _ _ | exact lowN_ok _ _ _ _ _ _ | exact lowN_ok _ _ _ _ _ _ _ | exact lowN_ok _ _ _ _ _ _ _ _ | exact lowN_ok _ _ _ _ _ _ _ _ _ | exact lowN_ok _ _ _ _ _ _ _ _ _ _ | exact lowN_ok _ _ _ _ _ _ _ _ _ _ _)
theorem lessN_ok (a b c d e f g h : Int) (hx : (dOk a b c d && dOk e f g h) = true) : CallOK Tryz.prog 132 [.agg [.int .u64 a, .int .u64 b, .int .u64 c, .int .u64 d], .agg [.int .u64 e, .int .u64 f, .int .u64 g, .int .u64 h]] []
    (.bool (decide (dv a b c d < dv e f g h))) [] [] :=
  runU_ok 5 q1 2 fun ⟨⟨ha, hb, hc, hd, _⟩, ⟨he, hf, hg, hh, _⟩, _⟩ _ K hK => by
    have ha' : 0 ≤ a ∧ a ≤ 18446744073709551615 := ha
    have hb' : 0 ≤ b ∧ b ≤ 18446744073709551615 := hb
    have hc' : 0 ≤ c ∧ c ≤ 18446744073709551615 := hc
    have hd' : 0 ≤ d ∧ d ≤ 18446744073709551615 := hd
    have he' : 0 ≤ e ∧ e ≤ 18446744073709551615 := he
    have hf' : 0 ≤ f ∧ f ≤ 18446744073709551615 := hf
    have hg' : 0 ≤ g ∧ g ≤ 18446744073709551615 := hg
    have hh' : 0 ≤ h ∧ h ≤ 18446744073709551615 := hh
    rw [Bool.and_eq_true, dOk_iff, dOk_iff] at hx
    have e : ∀ K, runU 5 q1 2 132 [.agg [.int .u64 a, .int .u64 b, .int .u64 c, .int .u64 d], .agg [.int .u64 e, .int .u64 f, .int .u64 g, .int .u64 h]] [] K =
      Br (d != h) (K (.bool (decide (d < h))) [] []) (Br (c != g) (K (.bool (decide (c < g))) [] []) (Br (b != f) (K (.bool (decide (b < f))) [] []) (Br (a != e) (K (.bool (decide (a < e))) [] []) (K (.bool false) [] [])))) := fun K => by kernel_rfl
    rw [e]
    unfold dv at hK
    refine Br.of (fun h1 => ?_) fun h1 => Br.of (fun h2 => ?_) fun h2 => Br.of (fun h3 => ?_) fun h3 => Br.of (fun h4 => ?_) fun h4 => ?_ <;>
      (try simp only [bne_iff_ne, ne_eq, bne_eq_false_iff_eq] at h1) <;> (try simp only [bne_iff_ne, ne_eq, bne_eq_false_iff_eq] at h2) <;> (try simp only [bne_iff_ne, ne_eq, bne_eq_false_iff_eq] at h3) <;> (try simp only [bne_iff_ne, ne_eq, bne_eq_false_iff_eq] at h4) <;>
      refine fin hK (congrArg SV.bool ?_)
    · exact decide_eq_decide.2 (by omega)
    · exact decide_eq_decide.2 (by omega)
    · exact decide_eq_decide.2 (by omega)
    · exact decide_eq_decide.2 (by omega)
    · exact (decide_eq_false (by omega)).symm
theorem plusN_ok (a b c d e f g h : Int) (hx : (dOk a b c d && dOk e f g h) = true) : CallOK Tryz.prog 131 [.agg [.int .u64 a, .int .u64 b, .int .u64 c, .int .u64 d], .agg [.int .u64 e, .int .u64 f, .int .u64 g, .int .u64 h]] []
    (.tup [.agg (digL (dv a b c d + dv e f g h)), .int .u64 ((dv a b c d + dv e f g h) / 340282366920938463463374607431768211456)]) [] [] :=
  runU_ok 5 q1 2 fun ⟨⟨ha, hb, hc, hd, _⟩, ⟨he, hf, hg, hh, _⟩, _⟩ _ K hK => by
    have ha' : 0 ≤ a ∧ a ≤ 18446744073709551615 := ha
    have hb' : 0 ≤ b ∧ b ≤ 18446744073709551615 := hb
    have hc' : 0 ≤ c ∧ c ≤ 18446744073709551615 := hc
    have hd' : 0 ≤ d ∧ d ≤ 18446744073709551615 := hd
    have he' : 0 ≤ e ∧ e ≤ 18446744073709551615 := he
    have hf' : 0 ≤ f ∧ f ≤ 18446744073709551615 := hf
    have hg' : 0 ≤ g ∧ g ≤ 18446744073709551615 := hg
    have hh' : 0 ≤ h ∧ h ≤ 18446744073709551615 := hh
    rw [Bool.and_eq_true, dOk_iff, dOk_iff] at hx
    have E : ∀ K, runU 5 q1 2 131 [.agg [.int .u64 a, .int .u64 b, .int .u64 c, .int .u64 d], .agg [.int .u64 e, .int .u64 f, .int .u64 g, .int .u64 h]] [] K =
      (fun s0 => (fun s1 => (fun s2 => (fun s3 => K (.tup [.agg [.int .u64 (s0 % 4294967296), .int .u64 (s1 % 4294967296), .int .u64 (s2 % 4294967296), .int .u64 (s3 % 4294967296)], .int .u64 (IntKind.u64.wrap (s3.tdiv 4294967296))]) [] [])
        (IntKind.u64.wrap (IntKind.u64.wrap (d + h) + IntKind.u64.wrap (s2.tdiv 4294967296)))) (IntKind.u64.wrap (IntKind.u64.wrap (c + g) + IntKind.u64.wrap (s1.tdiv 4294967296)))) (IntKind.u64.wrap (IntKind.u64.wrap (b + f) + IntKind.u64.wrap (s0.tdiv 4294967296))))
        (IntKind.u64.wrap (IntKind.u64.wrap (a + e) + 0)) := fun K => by kernel_rfl
    rw [E]
    show K _ _ _
    simp only [u64_tdiv]
    simp only [wu64]
    have hs0 : (a + e) / 4294967296 ≤ 1 ∧ 0 ≤ (a + e) / 4294967296 := by omega
    generalize hk0 : (a + e) / 4294967296 = k0 at hs0
    generalize hk1 : (b + f + k0) / 4294967296 = k1
    have hs1 : k1 ≤ 1 ∧ 0 ≤ k1 := by omega
    generalize hk2 : (c + g + k1) / 4294967296 = k2
    have hs2 : k2 ≤ 1 ∧ 0 ≤ k2 := by omega
    have e0 : ((a + e) % 18446744073709551616 + 0) % 18446744073709551616 = a + e := by omega
    rw [e0, hk0, show ((b + f) % 18446744073709551616 + k0 % 18446744073709551616) % 18446744073709551616 = b + f + k0 by omega, hk1,
      show ((c + g) % 18446744073709551616 + k1 % 18446744073709551616) % 18446744073709551616 = c + g + k1 by omega, hk2,
      show ((d + h) % 18446744073709551616 + k2 % 18446744073709551616) % 18446744073709551616 = d + h + k2 by omega]
    refine fin hK ?_
    rw [dig_mod (X := dv a b c d + dv e f g h) (by rw [dOk_iff]; omega) (by omega) (by omega) (by omega) (by omega) (by unfold dv; omega)]
    congr 4
    unfold dv; omega
theorem minusN_ok (a b c d e f g h : Int) (hx : (dOk a b c d && dOk e f g h && decide (dv e f g h ≤ dv a b c d)) = true) : CallOK Tryz.prog 133 [.agg [.int .u64 a, .int .u64 b, .int .u64 c, .int .u64 d], .agg [.int .u64 e, .int .u64 f, .int .u64 g, .int .u64 h]] []
    (.agg (digL (dv a b c d - dv e f g h))) [] [] :=
  runU_ok 5 q1 2 fun ⟨⟨ha, hb, hc, hd, _⟩, ⟨he, hf, hg, hh, _⟩, _⟩ _ K hK => by
    have ha' : 0 ≤ a ∧ a ≤ 18446744073709551615 := ha
    have hb' : 0 ≤ b ∧ b ≤ 18446744073709551615 := hb
    have hc' : 0 ≤ c ∧ c ≤ 18446744073709551615 := hc
    have hd' : 0 ≤ d ∧ d ≤ 18446744073709551615 := hd
    have he' : 0 ≤ e ∧ e ≤ 18446744073709551615 := he
    have hf' : 0 ≤ f ∧ f ≤ 18446744073709551615 := hf
    have hg' : 0 ≤ g ∧ g ≤ 18446744073709551615 := hg
    have hh' : 0 ≤ h ∧ h ≤ 18446744073709551615 := hh
    simp only [Bool.and_eq_true, dOk_iff, decide_eq_true_eq] at hx
    have E : ∀ K, runU 5 q1 2 133 [.agg [.int .u64 a, .int .u64 b, .int .u64 c, .int .u64 d], .agg [.int .u64 e, .int .u64 f, .int .u64 g, .int .u64 h]] [] K =
      (fun st cr => (fun s0 => (fun s1 => (fun s2 => (fun s3 => K (.agg [.int .u64 (s0 % 4294967296), .int .u64 (s1 % 4294967296), .int .u64 (s2 % 4294967296), .int .u64 (s3 % 4294967296)]) [] [])
        (st d h (cr s2))) (st c g (cr s1))) (st b f (cr s0))) (st a e 0))
        (fun x y k => IntKind.u64.wrap (IntKind.u64.wrap (IntKind.u64.wrap (x + 4294967296) - y) - k)) (fun s => IntKind.u64.wrap (1 - IntKind.u64.wrap (s.tdiv 4294967296))) := fun K => by kernel_rfl
    rw [E]
    dsimp only
    have st : ∀ x y k : Int, 0 ≤ x → x < 4294967296 → 0 ≤ y → y < 4294967296 → 0 ≤ k → k ≤ 1 → IntKind.u64.wrap (IntKind.u64.wrap (IntKind.u64.wrap (x + 4294967296) - y) - k) = x + 4294967296 - y - k := fun x y k _ _ _ _ _ _ => by simp only [wu64]; omega
    have cr : ∀ x y k : Int, 0 ≤ x → x < 4294967296 → 0 ≤ y → y < 4294967296 → 0 ≤ k → k ≤ 1 → IntKind.u64.wrap (1 - IntKind.u64.wrap ((x + 4294967296 - y - k).tdiv 4294967296)) = 1 - (x + 4294967296 - y - k) / 4294967296 := fun x y k _ _ _ _ _ _ => by
      rw [Int.tdiv_eq_ediv_of_nonneg (by omega)]; simp only [wu64]; omega
    obtain ⟨⟨hA, hB⟩, hle⟩ := hx
    rw [st a e 0 (by omega) (by omega) (by omega) (by omega) (by omega) (by omega), cr a e 0 (by omega) (by omega) (by omega) (by omega) (by omega) (by omega)]
    have r0 : 0 ≤ 1 - (a + 4294967296 - e - 0) / 4294967296 ∧ 1 - (a + 4294967296 - e - 0) / 4294967296 ≤ 1 := by omega
    generalize hk0 : 1 - (a + 4294967296 - e - 0) / 4294967296 = k0 at r0 ⊢
    rw [st b f k0 (by omega) (by omega) (by omega) (by omega) r0.1 r0.2, cr b f k0 (by omega) (by omega) (by omega) (by omega) r0.1 r0.2]
    have r1 : 0 ≤ 1 - (b + 4294967296 - f - k0) / 4294967296 ∧ 1 - (b + 4294967296 - f - k0) / 4294967296 ≤ 1 := by omega
    generalize hk1 : 1 - (b + 4294967296 - f - k0) / 4294967296 = k1 at r1 ⊢
    rw [st c g k1 (by omega) (by omega) (by omega) (by omega) r1.1 r1.2, cr c g k1 (by omega) (by omega) (by omega) (by omega) r1.1 r1.2]
    have r2 : 0 ≤ 1 - (c + 4294967296 - g - k1) / 4294967296 ∧ 1 - (c + 4294967296 - g - k1) / 4294967296 ≤ 1 := by omega
    generalize hk2 : 1 - (c + 4294967296 - g - k1) / 4294967296 = k2 at r2 ⊢
    rw [st d h k2 (by omega) (by omega) (by omega) (by omega) r2.1 r2.2]
    refine fin hK (congrArg SV.agg (dig_eq (by rw [dOk_iff]; omega) (by omega) (by omega) (by omega) (by omega) ?_))
    unfold dv at hle ⊢
    omega
theorem zeroN_ok (s : Bool) (a b c d : Int) : CallOK Tryz.prog 130 [.agg [.bool s, .int .u64 a, .int .u64 b, .int .u64 c, .int .u64 d]] [] (.bool (dv a b c d == 0)) [] [] :=
  run_ok q1 2 fun ⟨⟨_, ha, hb, hc, hd, _⟩, _⟩ _ K hK => by
    have ha' : 0 ≤ a ∧ a ≤ 18446744073709551615 := ha
    have hb' : 0 ≤ b ∧ b ≤ 18446744073709551615 := hb
    have hc' : 0 ≤ c ∧ c ≤ 18446744073709551615 := hc
    have hd' : 0 ≤ d ∧ d ≤ 18446744073709551615 := hd
    have E : ∀ K, run q1 2 130 [.agg [.bool s, .int .u64 a, .int .u64 b, .int .u64 c, .int .u64 d]] [] K =
      Br (a == 0) (Br (b == 0) (Br (c == 0) (K (.bool (d == 0)) [] []) (K (.bool false) [] [])) (K (.bool false) [] [])) (K (.bool false) [] []) := fun K => by kernel_rfl
    rw [E]
    unfold dv at hK
    refine Br.of (fun h1 => Br.of (fun h2 => Br.of (fun h3 => ?_) fun h3 => ?_) fun h2 => ?_) fun h1 => ?_ <;> refine fin hK (congrArg SV.bool ?_) <;>
      (try simp only [beq_iff_eq, beq_eq_false_iff_ne, ne_eq] at h1) <;> (try simp only [beq_iff_eq, beq_eq_false_iff_ne, ne_eq] at h2) <;> (try simp only [beq_iff_eq, beq_eq_false_iff_ne, ne_eq] at h3) <;> rw [Bool.eq_iff_iff] <;>
      simp only [beq_iff_eq, Bool.false_eq_true, false_iff] <;> omega
noncomputable def q1z : Know Tryz.prog := (q1).add 130 (one cZeroN) (one_sat fun xs σ v σ' d h => by
    unfold cZeroN at h; split at h <;> cases h; first | exact zeroN_ok | exact zeroN_ok _ | exact zeroN_ok _ _ | exact zeroN_ok _ _ _ | exact zeroN_ok _ _ _ _ | exact zeroN_ok _ _ _ _ _ | exact zeroN_ok _ _ _ _ _ _ | exact zeroN_ok _ _ _ _ _ _ _ | exact zeroN_ok _ _ _ _ _ _ _ _ | exact zeroN_ok _ _ _ _ _ _ _ _ _ | exact zeroN_ok _ _ _ _ _ _ _ _ _ _ | exact zeroN_ok _ _ _ _ _ _ _ _ _ _ _)
theorem signN_ok (s : Bool) (a b c d : Int) : CallOK Tryz.prog 109 [.agg [.bool s, .int .u64 a, .int .u64 b, .int .u64 c, .int .u64 d]] [] (.int .i64 (cmpI (nv s a b c d) 0)) [] [] :=
  run_ok q1z 2 fun ⟨⟨_, ha, hb, hc, hd, _⟩, _⟩ _ K hK => by
    have ha' : 0 ≤ a ∧ a ≤ 18446744073709551615 := ha
    have hb' : 0 ≤ b ∧ b ≤ 18446744073709551615 := hb
    have hc' : 0 ≤ c ∧ c ≤ 18446744073709551615 := hc
    have hd' : 0 ≤ d ∧ d ≤ 18446744073709551615 := hd
    have E : ∀ K, run q1z 2 109 [.agg [.bool s, .int .u64 a, .int .u64 b, .int .u64 c, .int .u64 d]] [] K =
      Br (dv a b c d == 0) (K (.int .i64 0) [] []) (Br s (K (.int .i64 (-1)) [] []) (K (.int .i64 1) [] [])) := fun K => by kernel_rfl
    rw [E]
    have h0 : 0 ≤ dv a b c d := by unfold dv; omega
    unfold nv cmpI at hK
    generalize dv a b c d = X at *
    refine Br.of (fun h1 => ?_) fun h1 => Br.of (fun h2 => ?_) fun h2 => ?_ <;> (try subst h2) <;> refine fin hK (congrArg (SV.int .i64) ?_) <;> simp only [beq_iff_eq, beq_eq_false_iff_ne, ne_eq] at h1
    · subst h1
      cases s <;> rfl
    · simp only [cond_true, decide_eq_true (show -X < 0 by omega)]
    · simp only [cond_false, decide_eq_false (show ¬ X < 0 by omega), decide_eq_true (show 0 < X by omega), cond_true]
theorem wordsN_law {s : Bool} {a b c d : Int} {K : KC} (ha : 0 ≤ a) (hb : 0 ≤ b) (hc : 0 ≤ c) (hd : 0 ≤ d) (hx : dOk a b c d = true) (hK : ∀ h l : Int, K (.tup [.int .i64 h, .int .u64 l, .bool (in128 (nv s a b c d))]) [] [])
    (L1 L2 L3 L4 L5 L6 : Int) : Br (decide (IntKind.u64.wrap (IntKind.u64.wrap (d * 4294967296) + c) > 9223372036854775808)) (K (.tup [.int .i64 0, .int .u64 0, .bool false]) [] [])
      (Br (IntKind.u64.wrap (IntKind.u64.wrap (d * 4294967296) + c) == 9223372036854775808) (Br (IntKind.u64.wrap (IntKind.u64.wrap (b * 4294967296) + a) != 0) (K (.tup [.int .i64 0, .int .u64 0, .bool false]) [] [])
        (Br (!s) (K (.tup [.int .i64 0, .int .u64 0, .bool false]) [] []) (∀ h l : Int, K (.tup [.int .i64 h, .int .u64 l, .bool true]) [] []))) (∀ h l : Int, K (.tup [.int .i64 h, .int .u64 l, .bool true]) [] [])) := by
  rw [dOk_iff] at hx
  have hi := in128_iff (nv s a b c d)
  simp only [wu64]
  rw [show (d * 4294967296 % 18446744073709551616 + c) % 18446744073709551616 = d * 4294967296 + c by omega, show (b * 4294967296 % 18446744073709551616 + a) % 18446744073709551616 = b * 4294967296 + a by omega]
  have key : ∀ B : Bool, (B = true ↔ -170141183460469231731687303715884105728 ≤ nv s a b c d ∧ nv s a b c d < 170141183460469231731687303715884105728) → ∀ h l : Int, K (.tup [.int .i64 h, .int .u64 l, .bool B]) [] [] := fun B hB h l => by
    rw [in128_eq hB]; exact hK h l
  have hv : (s = true ∧ nv s a b c d = -dv a b c d) ∨ (s = false ∧ nv s a b c d = dv a b c d) := by cases s <;> simp [nv]
  unfold dv at hv
  refine Br.of (fun h1 => key _ ?_ 0 0) fun h1 => Br.of (fun h2 => Br.of (fun h3 => key _ ?_ 0 0) fun h3 => Br.of (fun h4 => key _ ?_ 0 0) fun h4 => key _ ?_) fun h2 => key _ ?_ <;>
    simp only [decide_eq_true_eq, decide_eq_false_iff_not] at h1 <;> (try simp only [beq_iff_eq, beq_eq_false_iff_ne, ne_eq] at h2) <;> (try simp only [bne_iff_ne, ne_eq, bne_eq_false_iff_eq] at h3) <;> (try simp only [Bool.not_eq_true', Bool.not_eq_false'] at h4) <;>
    simp only [Bool.false_eq_true, false_iff, true_iff]
  · rcases hv with ⟨_, hv⟩ | ⟨_, hv⟩ <;> omega
  · rcases hv with ⟨_, hv⟩ | ⟨_, hv⟩ <;> omega
  · rcases hv with ⟨h5, hv⟩ | ⟨_, hv⟩
    · rw [h5] at h4; cases h4
    · omega
  · rcases hv with ⟨_, hv⟩ | ⟨h5, hv⟩
    · omega
    · rw [h5] at h4; cases h4
  · rcases hv with ⟨_, hv⟩ | ⟨_, hv⟩ <;> omega
end Go.Proofs.YtbedljhbakdghaaGreatDoor

namespace Go.Proofs.YtbedljhbakdghaaGreatDoor
open Go.Se
set_option maxRecDepth 100000
def notU (x : Int) : Int := IntKind.u64.wrap ↑(BitVec.ofInt IntKind.u64.bits (if IntKind.u64.signed = true then -1 else IntKind.u64.max) ^^^ BitVec.ofInt IntKind.u64.bits x).toNat
def wordsT (s : Bool) (h l : Int) (K : KC) : Prop :=
  Br s (Br (IntKind.u64.wrap (notU l + 1) == 0) (K (.tup [.int .i64 (IntKind.i64.wrap (IntKind.u64.wrap (notU h + 1))), .int .u64 (IntKind.u64.wrap (notU l + 1)), .bool true]) [] [])
    (K (.tup [.int .i64 (IntKind.i64.wrap (notU h)), .int .u64 (IntKind.u64.wrap (notU l + 1)), .bool true]) [] []))
    (K (.tup [.int .i64 (IntKind.i64.wrap h), .int .u64 l, .bool true]) [] [])
theorem words_entry (s : Bool) (a b c d : Int) (K : KC) : run q1 2 134 [.agg [.bool s, .int .u64 a, .int .u64 b, .int .u64 c, .int .u64 d]] [] K =
    (fun h l => Br (decide (h > 9223372036854775808)) (K (.tup [.int .i64 0, .int .u64 0, .bool false]) [] [])
      (Br (h == 9223372036854775808) (Br (l != 0) (K (.tup [.int .i64 0, .int .u64 0, .bool false]) [] [])
        (Br (!s) (K (.tup [.int .i64 0, .int .u64 0, .bool false]) [] []) (wordsT s h l K))) (wordsT s h l K)))
    (IntKind.u64.wrap (IntKind.u64.wrap (d * 4294967296) + c)) (IntKind.u64.wrap (IntKind.u64.wrap (b * 4294967296) + a)) := by kernel_rfl
theorem br_mono {c : Bool} {A B C D : Prop} (h : Br c A B) (f : A → C) (g : B → D) : Br c C D := by
  cases c
  · exact g h
  · exact f h
theorem words_sat (xs : List SV) (σ : List (Option SB)) : Sat Tryz.prog 134 xs σ (cWordsN xs σ) := by
  intro K hK
  unfold cWordsN at hK
  split at hK
  · rename_i s a b c d
    obtain ⟨hx, hK⟩ := If.get hK
    -- which end it is, is known
    have h : ∃ h l : Int, CallOK Tryz.prog 134 [.agg [.bool s, .int .u64 a, .int .u64 b, .int .u64 c, .int .u64 d]] [] (.tup [.int .i64 h, .int .u64 l, .bool (in128 (nv s a b c d))]) [] [] := by
      cases hin : in128 (nv s a b c d) with
      | false =>
        refine ⟨0, 0, run_ok q1 2 fun ⟨⟨_, ha, hb, hc, hd, _⟩, _⟩ _ K hK => ?_⟩
        have ha' : 0 ≤ a ∧ a ≤ 18446744073709551615 := ha
        have hb' : 0 ≤ b ∧ b ≤ 18446744073709551615 := hb
        have hc' : 0 ≤ c ∧ c ≤ 18446744073709551615 := hc
        have hd' : 0 ≤ d ∧ d ≤ 18446744073709551615 := hd
        rw [words_entry]
        have := @wordsN_law s a b c d (fun v _ _ => match v with
          | .tup [_, _, .bool true] => False
          | _ => K (.tup [.int .i64 0, .int .u64 0, .bool false]) [] []) ha'.1 hb'.1 hc'.1 hd'.1 hx (fun h l => by rw [hin]; exact hK) 0 0 0 0 0 0
        exact br_mono this id fun h => br_mono h (fun h => br_mono h id fun h => br_mono h id fun h => (h 0 0).elim) fun h => (h 0 0).elim
      | true =>
        have hi := (in128_iff _).1 hin
        refine ⟨IntKind.i64.wrap (bif s then (bif IntKind.u64.wrap (notU (IntKind.u64.wrap (IntKind.u64.wrap (b * 4294967296) + a)) + 1) == 0 then IntKind.u64.wrap (notU (IntKind.u64.wrap (IntKind.u64.wrap (d * 4294967296) + c)) + 1) else notU (IntKind.u64.wrap (IntKind.u64.wrap (d * 4294967296) + c))) else IntKind.u64.wrap (IntKind.u64.wrap (d * 4294967296) + c)),
          bif s then IntKind.u64.wrap (notU (IntKind.u64.wrap (IntKind.u64.wrap (b * 4294967296) + a)) + 1) else IntKind.u64.wrap (IntKind.u64.wrap (b * 4294967296) + a), run_ok q1 2 fun ⟨⟨_, ha, hb, hc, hd, _⟩, _⟩ _ K hK => ?_⟩
        have ha' : 0 ≤ a ∧ a ≤ 18446744073709551615 := ha
        have hb' : 0 ≤ b ∧ b ≤ 18446744073709551615 := hb
        have hc' : 0 ≤ c ∧ c ≤ 18446744073709551615 := hc
        have hd' : 0 ≤ d ∧ d ≤ 18446744073709551615 := hd
        rw [words_entry]
        have hT : wordsT s (IntKind.u64.wrap (IntKind.u64.wrap (d * 4294967296) + c)) (IntKind.u64.wrap (IntKind.u64.wrap (b * 4294967296) + a)) K := by
          unfold wordsT
          refine Br.of (fun h1 => Br.of (fun h2 => ?_) fun h2 => ?_) fun h1 => ?_
          · rw [h1, h2] at hK; exact hK
          · rw [h1, h2] at hK; exact hK
          · rw [h1] at hK; exact hK
        have := @wordsN_law s a b c d (fun v _ _ => match v with
          | .tup [_, _, .bool true] => True
          | _ => False) ha'.1 hb'.1 hc'.1 hd'.1 hx (fun h l => by rw [hin]; trivial) 0 0 0 0 0 0
        exact br_mono this (fun h => h.elim) fun h => br_mono h (fun h => br_mono h (fun h => h.elim) fun h => br_mono h (fun h => h.elim) fun _ => hT) fun _ => hT
    obtain ⟨h, l, hc⟩ := h
    exact ⟨_, _, _, hK h l, hc⟩
  · exact hK.elim

noncomputable def q2 : Know Tryz.prog := ((((((q1).add 130 (one cZeroN) (one_sat fun xs σ v σ' d h => by
    unfold cZeroN at h; split at h <;> cases h; first | exact zeroN_ok | exact zeroN_ok _ | exact zeroN_ok _ _ | exact zeroN_ok _ _ _ | exact zeroN_ok _ _ _ _ | exact zeroN_ok _ _ _ _ _ | exact zeroN_ok _ _ _ _ _ _ | exact zeroN_ok _ _ _ _ _ _ _ | exact zeroN_ok _ _ _ _ _ _ _ _ | exact zeroN_ok _ _ _ _ _ _ _ _ _ | exact zeroN_ok _ _ _ _ _ _ _ _ _ _ | exact zeroN_ok _ _ _ _ _ _ _ _ _ _ _)).add 109 (one cSignN) (one_sat fun xs σ v σ' d h => by
    unfold cSignN at h; split at h <;> cases h; first | exact signN_ok | exact signN_ok _ | exact signN_ok _ _ | exact signN_ok _ _ _ | exact signN_ok _ _ _ _ | exact signN_ok _ _ _ _ _ | exact signN_ok _ _ _ _ _ _ | exact signN_ok _ _ _ _ _ _ _ | exact signN_ok _ _ _ _ _ _ _ _ | exact signN_ok _ _ _ _ _ _ _ _ _ | exact signN_ok _ _ _ _ _ _ _ _ _ _ | exact signN_ok _ _ _ _ _ _ _ _ _ _ _)).add 134 cWordsN words_sat).add 132 (oneIf cLessN) (oneIf_sat fun xs σ v σ' d h => by
    unfold cLessN at h; split at h
    · simp only [Option.some.injEq, Prod.mk.injEq] at h
      obtain ⟨h1, rfl, rfl, rfl⟩ := h
      first | exact lessN_ok h1 | exact lessN_ok _ h1 | exact lessN_ok _ _ h1 | exact lessN_ok _ _ _ h1 | exact lessN_ok _ _ _ _ h1 | exact lessN_ok _ _ _ _ _ h1 | exact lessN_ok _ _ _ _ _ _ h1 | exact lessN_ok _ _ _ _ _ _ _ h1 | exact lessN_ok _ _ _ _ _ _ _ _ h1 | exact lessN_ok _ _ _ _ _ _ _ _ _ h1 | exact lessN_ok _ _ _ _ _ _ _ _ _ _ h1 | exact lessN_ok _ _ _ _ _ _ _ _ _ _ _ h1 | exact lessN_ok _ _ _ _ _ _ _ _ _ _ _ _ h1 | exact lessN_ok (of_decide_eq_true h1) | exact lessN_ok _ (of_decide_eq_true h1) | exact lessN_ok _ _ (of_decide_eq_true h1) | exact lessN_ok _ _ _ (of_decide_eq_true h1) | exact lessN_ok _ _ _ _ (of_decide_eq_true h1) | exact lessN_ok _ _ _ _ _ (of_decide_eq_true h1) | exact lessN_ok _ _ _ _ _ _ (of_decide_eq_true h1) | exact lessN_ok _ _ _ _ _ _ _ (of_decide_eq_true h1) | exact lessN_ok _ _ _ _ _ _ _ _ (of_decide_eq_true h1) | exact lessN_ok _ _ _ _ _ _ _ _ _ (of_decide_eq_true h1) | exact lessN_ok _ _ _ _ _ _ _ _ _ _ (of_decide_eq_true h1) | exact lessN_ok _ _ _ _ _ _ _ _ _ _ _ (of_decide_eq_true h1) | exact lessN_ok _ _ _ _ _ _ _ _ _ _ _ _ (of_decide_eq_true h1)
    · cases h)).add 131 (oneIf cPlusN) (oneIf_sat fun xs σ v σ' d h => by
    unfold cPlusN at h; split at h
    · simp only [Option.some.injEq, Prod.mk.injEq] at h
      obtain ⟨h1, rfl, rfl, rfl⟩ := h
      first | exact plusN_ok h1 | exact plusN_ok _ h1 | exact plusN_ok _ _ h1 | exact plusN_ok _ _ _ h1 | exact plusN_ok _ _ _ _ h1 | exact plusN_ok _ _ _ _ _ h1 | exact plusN_ok _ _ _ _ _ _ h1 | exact plusN_ok _ _ _ _ _ _ _ h1 | exact plusN_ok _ _ _ _ _ _ _ _ h1 | exact plusN_ok _ _ _ _ _ _ _ _ _ h1 | exact plusN_ok _ _ _ _ _ _ _ _ _ _ h1 | exact plusN_ok _ _ _ _ _ _ _ _ _ _ _ h1 | exact plusN_ok _ _ _ _ _ _ _ _ _ _ _ _ h1 | exact plusN_ok (of_decide_eq_true h1) | exact plusN_ok _ (of_decide_eq_true h1) | exact plusN_ok _ _ (of_decide_eq_true h1) | exact plusN_ok _ _ _ (of_decide_eq_true h1) | exact plusN_ok _ _ _ _ (of_decide_eq_true h1) | exact plusN_ok _ _ _ _ _ (of_decide_eq_true h1) | exact plusN_ok _ _ _ _ _ _ (of_decide_eq_true h1) | exact plusN_ok _ _ _ _ _ _ _ (of_decide_eq_true h1) | exact plusN_ok _ _ _ _ _ _ _ _ (of_decide_eq_true h1) | exact plusN_ok _ _ _ _ _ _ _ _ _ (of_decide_eq_true h1) | exact plusN_ok _ _ _ _ _ _ _ _ _ _ (of_decide_eq_true h1) | exact plusN_ok _ _ _ _ _ _ _ _ _ _ _ (of_decide_eq_true h1) | exact plusN_ok _ _ _ _ _ _ _ _ _ _ _ _ (of_decide_eq_true h1)
    · cases h)).add 133 (oneIf cMinusN) (oneIf_sat fun xs σ v σ' d h => by
    unfold cMinusN at h; split at h
    · simp only [Option.some.injEq, Prod.mk.injEq] at h
      obtain ⟨h1, rfl, rfl, rfl⟩ := h
      first | exact minusN_ok h1 | exact minusN_ok _ h1 | exact minusN_ok _ _ h1 | exact minusN_ok _ _ _ h1 | exact minusN_ok _ _ _ _ h1 | exact minusN_ok _ _ _ _ _ h1 | exact minusN_ok _ _ _ _ _ _ h1 | exact minusN_ok _ _ _ _ _ _ _ h1 | exact minusN_ok _ _ _ _ _ _ _ _ h1 | exact minusN_ok _ _ _ _ _ _ _ _ _ h1 | exact minusN_ok _ _ _ _ _ _ _ _ _ _ h1 | exact minusN_ok _ _ _ _ _ _ _ _ _ _ _ h1 | exact minusN_ok _ _ _ _ _ _ _ _ _ _ _ _ h1 | exact minusN_ok (of_decide_eq_true h1) | exact minusN_ok _ (of_decide_eq_true h1) | exact minusN_ok _ _ (of_decide_eq_true h1) | exact minusN_ok _ _ _ (of_decide_eq_true h1) | exact minusN_ok _ _ _ _ (of_decide_eq_true h1) | exact minusN_ok _ _ _ _ _ (of_decide_eq_true h1) | exact minusN_ok _ _ _ _ _ _ (of_decide_eq_true h1) | exact minusN_ok _ _ _ _ _ _ _ (of_decide_eq_true h1) | exact minusN_ok _ _ _ _ _ _ _ _ (of_decide_eq_true h1) | exact minusN_ok _ _ _ _ _ _ _ _ _ (of_decide_eq_true h1) | exact minusN_ok _ _ _ _ _ _ _ _ _ _ (of_decide_eq_true h1) | exact minusN_ok _ _ _ _ _ _ _ _ _ _ _ (of_decide_eq_true h1) | exact minusN_ok _ _ _ _ _ _ _ _ _ _ _ _ (of_decide_eq_true h1)
    · cases h)
end Go.Proofs.YtbedljhbakdghaaGreatDoor

namespace Go.Proofs.YtbedljhbakdghaaGreatDoor
open Go.Se
set_option maxRecDepth 100000
theorem addN_ok (s t : Bool) (a b c d e f g h : Int) (hx : (dOk a b c d && dOk e f g h) = true) : CallOK Tryz.prog 113
    [.agg [.bool s, .int .u64 a, .int .u64 b, .int .u64 c, .int .u64 d], .agg [.bool t, .int .u64 e, .int .u64 f, .int .u64 g, .int .u64 h]] []
    (.tup [nSV (bif in128 (nv s a b c d + nv t e f g h) then nv s a b c d + nv t e f g h else 0), .bool (in128 (nv s a b c d + nv t e f g h))]) [] [] :=
  run_ok q2 2 fun ⟨⟨_, ha, hb, hc, hd, _⟩, ⟨_, he, hf, hg, hh, _⟩, _⟩ _ K hK => by
    have ha' : 0 ≤ a ∧ a ≤ 18446744073709551615 := ha
    have hb' : 0 ≤ b ∧ b ≤ 18446744073709551615 := hb
    have hc' : 0 ≤ c ∧ c ≤ 18446744073709551615 := hc
    have hd' : 0 ≤ d ∧ d ≤ 18446744073709551615 := hd
    have he' : 0 ≤ e ∧ e ≤ 18446744073709551615 := he
    have hf' : 0 ≤ f ∧ f ≤ 18446744073709551615 := hf
    have hg' : 0 ≤ g ∧ g ≤ 18446744073709551615 := hg
    have hh' : 0 ≤ h ∧ h ≤ 18446744073709551615 := hh
    have E : ∀ K, run q2 2 113 [.agg [.bool s, .int .u64 a, .int .u64 b, .int .u64 c, .int .u64 d], .agg [.bool t, .int .u64 e, .int .u64 f, .int .u64 g, .int .u64 h]] [] K =
      Br (s == t) (If (dOk a b c d && dOk e f g h) (sumF ((dv a b c d + dv e f g h) / 340282366920938463463374607431768211456 == 0) s (dv a b c d + dv e f g h) K))
        (If (dOk a b c d && dOk e f g h) (Br (decide (dv a b c d < dv e f g h)) (If (dOk e f g h && dOk a b c d && decide (dv a b c d ≤ dv e f g h)) (sumF true t (dv e f g h - dv a b c d) K))
          (If (dOk a b c d && dOk e f g h && decide (dv e f g h ≤ dv a b c d)) (sumF true s (dv a b c d - dv e f g h) K)))) := fun K => by kernel_rfl
    rw [E]
    have hx' := hx
    rw [Bool.and_eq_true, dOk_iff, dOk_iff] at hx'
    have hA : 0 ≤ dv a b c d ∧ dv a b c d < 340282366920938463463374607431768211456 := by unfold dv; omega
    have hB : 0 ≤ dv e f g h ∧ dv e f g h < 340282366920938463463374607431768211456 := by unfold dv; omega
    have hAx : nv s a b c d = bif s then -dv a b c d else dv a b c d := rfl
    have hBx : nv t e f g h = bif t then -dv e f g h else dv e f g h := rfl
    rw [hAx, hBx] at hK
    rw [Bool.and_comm (dOk e f g h)]
    rw [hx]
    generalize dv a b c d = A at *
    generalize dv e f g h = B at *
    refine Br.of (fun h1 => If.mk rfl (sumF_law (by omega) (by omega) ?_ ?_ hK)) fun h1 => If.mk rfl (Br.of (fun h2 => If.mk ?_ (sumF_law (by have := of_decide_eq_true h2; omega) (by omega) ?_ ?_ hK)) fun h2 => If.mk ?_ (sumF_law (by have := of_decide_eq_false h2; omega) (by omega) ?_ ?_ hK))
    · rw [Bool.eq_iff_iff, beq_iff_eq, decide_eq_true_eq]; omega
    · have : s = t := by simpa using h1
      subst this
      cases s
      · rfl
      · simp only [cond_true]; omega
    · simpa using Int.le_of_lt (of_decide_eq_true h2)
    · have := of_decide_eq_true h2; exact (decide_eq_true (by omega)).symm
    · cases s <;> cases t <;> simp at h1 ⊢ <;> omega
    · have := of_decide_eq_false h2; simpa using (by omega : B ≤ A)
    · have := of_decide_eq_false h2; exact (decide_eq_true (by omega)).symm
    · cases s <;> cases t <;> simp at h1 ⊢ <;> omega
theorem cmpN_ok (s t : Bool) (a b c d e f g h : Int) (hx : (dOk a b c d && dOk e f g h) = true) : CallOK Tryz.prog 116
    [.agg [.bool s, .int .u64 a, .int .u64 b, .int .u64 c, .int .u64 d], .agg [.bool t, .int .u64 e, .int .u64 f, .int .u64 g, .int .u64 h]] []
    (.int .i64 (cmpI (nv s a b c d) (nv t e f g h))) [] [] :=
  run_ok q2 2 fun ⟨⟨_, ha, hb, hc, hd, _⟩, ⟨_, he, hf, hg, hh, _⟩, _⟩ _ K hK => by
    have ha' : 0 ≤ a ∧ a ≤ 18446744073709551615 := ha
    have hb' : 0 ≤ b ∧ b ≤ 18446744073709551615 := hb
    have hc' : 0 ≤ c ∧ c ≤ 18446744073709551615 := hc
    have hd' : 0 ≤ d ∧ d ≤ 18446744073709551615 := hd
    have he' : 0 ≤ e ∧ e ≤ 18446744073709551615 := he
    have hf' : 0 ≤ f ∧ f ≤ 18446744073709551615 := hf
    have hg' : 0 ≤ g ∧ g ≤ 18446744073709551615 := hg
    have hh' : 0 ≤ h ∧ h ≤ 18446744073709551615 := hh
    have E : ∀ K, run q2 2 116 [.agg [.bool s, .int .u64 a, .int .u64 b, .int .u64 c, .int .u64 d], .agg [.bool t, .int .u64 e, .int .u64 f, .int .u64 g, .int .u64 h]] [] K =
      Br (cmpI (nv s a b c d) 0 != cmpI (nv t e f g h) 0) (Br (decide (cmpI (nv s a b c d) 0 < cmpI (nv t e f g h) 0)) (K (.int .i64 (-1)) [] []) (K (.int .i64 1) [] []))
        (Br (a == e && (b == f && (c == g && d == h))) (K (.int .i64 0) [] []) (If (dOk a b c d && dOk e f g h) (Br (decide (dv a b c d < dv e f g h) == s) (K (.int .i64 1) [] []) (K (.int .i64 (-1)) [] [])))) := fun K => by kernel_rfl
    rw [E, hx]
    rw [Bool.and_eq_true, dOk_iff, dOk_iff] at hx
    have heq : (a == e && (b == f && (c == g && d == h))) = decide (dv a b c d = dv e f g h) := by
      rw [Bool.eq_iff_iff]
      simp only [Bool.and_eq_true, beq_iff_eq, decide_eq_true_eq]
      unfold dv; omega
    have hA : 0 ≤ dv a b c d := by unfold dv; omega
    have hB : 0 ≤ dv e f g h := by unfold dv; omega
    rw [heq]
    unfold nv at hK ⊢
    generalize dv a b c d = A at *
    generalize dv e f g h = B at *
    have cI : ∀ x y : Int, (x < y ∧ cmpI x y = -1) ∨ (y < x ∧ cmpI x y = 1) ∨ (x = y ∧ cmpI x y = 0) := fun x y => by
      unfold cmpI
      by_cases h1 : x < y
      · exact .inl ⟨h1, by rw [decide_eq_true h1]; rfl⟩
      · by_cases h2 : y < x
        · exact .inr (.inl ⟨h2, by rw [decide_eq_false h1, decide_eq_true h2]; rfl⟩)
        · exact .inr (.inr ⟨by omega, by rw [decide_eq_false h1, decide_eq_false h2]; rfl⟩)
    generalize hu : (bif s then -A else A) = u at *
    generalize hv : (bif t then -B else B) = v at *
    have hu' : (s = true ∧ u = -A) ∨ (s = false ∧ u = A) := by cases s <;> simp at hu <;> simp [hu]
    have hv' : (t = true ∧ v = -B) ∨ (t = false ∧ v = B) := by cases t <;> simp at hv <;> simp [hv]
    have h3 := cI u 0
    have h4 := cI v 0
    have h5 := cI u v
    generalize cmpI u 0 = cu at *
    generalize cmpI v 0 = cw at *
    generalize cmpI u v = cc at *
    refine Br.of (fun h1 => Br.of (fun h2 => ?_) fun h2 => ?_) fun h1 => Br.of (fun h2 => ?_) fun h2 => If.mk rfl (Br.of (fun h6 => ?_) fun h6 => ?_) <;>
      simp only [bne_iff_ne, ne_eq, bne_eq_false_iff_eq, decide_eq_true_eq, decide_eq_false_iff_not] at h1 h2 <;> refine fin hK (congrArg (SV.int .i64) ?_)
    · omega
    · omega
    · rcases hu' with ⟨_, hu'⟩ | ⟨_, hu'⟩ <;> rcases hv' with ⟨_, hv'⟩ | ⟨_, hv'⟩ <;> omega
    · rcases hu' with ⟨rfl, hu'⟩ | ⟨rfl, hu'⟩ <;> simp only [beq_iff_eq, decide_eq_true_eq, decide_eq_false_iff_not] at h6 <;> rcases hv' with ⟨_, hv'⟩ | ⟨_, hv'⟩ <;> omega
    · rcases hu' with ⟨rfl, hu'⟩ | ⟨rfl, hu'⟩ <;> simp only [beq_eq_false_iff_ne, ne_eq, decide_eq_true_eq, Bool.not_eq_true, decide_eq_false_iff_not, Bool.not_eq_false, Int.not_lt] at h6 <;> rcases hv' with ⟨_, hv'⟩ | ⟨_, hv'⟩ <;> omega
end Go.Proofs.YtbedljhbakdghaaGreatDoor

