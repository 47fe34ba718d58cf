import Derived.Test.YtbedljhbakdghaaGreatDoorRoot
import Derived.Test.YtbedljhbakdghaaGreatDoorSeTrk
import Derived.Test.YtbedljhbakdghaaGreatDoorSeNum
namespace Go.Proofs.YtbedljhbakdghaaGreatDoor
open Go.Se
set_option maxRecDepth 100000
theorem wsign_entry (a b : Int) (K : KC) : run k8 2 151 [.agg [.int .i64 a, .int .u64 b]] [] K =
    Br (a == 0 && b == 0) (K (.int .i64 0) [] []) (K (.int .i64 (IntKind.i64.wrap ((BitVec.ofInt IntKind.i64.bits (cmpI a 0) ||| BitVec.ofInt IntKind.i64.bits 1).toNat : Nat))) [] []) := by kernel_rfl
theorem wsign_ok (a b : Int) : CallOK Tryz.prog 151 [.agg [.int .i64 a, .int .u64 b]] [] (.int .i64 (cmpI (wv a b) 0)) [] [] :=
  run_ok k8 2 fun ⟨⟨_, hb, _⟩, _⟩ _ K hK => by
    have hb' : 0 ≤ b ∧ b ≤ 18446744073709551615 := hb
    rw [wsign_entry]
    unfold cmpI at hK ⊢
    refine Br.of (fun c => ?_) fun c => ?_
    · simp only [Bool.and_eq_true, beq_iff_eq] at c
      obtain ⟨rfl, rfl⟩ := c
      exact hK
    · simp only [Bool.and_eq_false_iff, beq_eq_false_iff_ne] at c
      cases h : decide (a < 0)
      · have h' := of_decide_eq_false h
        rw [decide_eq_false (show ¬ wv a b < 0 by unfold wv; omega), decide_eq_true (show 0 < wv a b by unfold wv; omega)] at hK
        cases h2 : decide (0 < a) <;> exact hK
      · have h' := of_decide_eq_true h
        rw [decide_eq_true (show wv a b < 0 by unfold wv; omega)] at hK
        exact fin hK (by kernel_rfl)
def cWSign : List SV → List (Option SB) → Out
  | [.agg [.int .i64 a, .int .u64 b]], [] => some (.int .i64 (cmpI (wv a b) 0), [], [])
  | _, _ => none
noncomputable def p1 : Know Tryz.prog := ((((k8).add 151 (one cWSign) (one_sat fun xs σ v σ' d h => by
    unfold cWSign at h; split at h <;> cases h; first | exact wsign_ok | exact wsign_ok _ | exact wsign_ok _ _ | exact wsign_ok _ _ _ | exact wsign_ok _ _ _ _ | exact wsign_ok _ _ _ _ _ | exact wsign_ok _ _ _ _ _ _ | exact wsign_ok _ _ _ _ _ _ _ | exact wsign_ok _ _ _ _ _ _ _ _ | exact wsign_ok _ _ _ _ _ _ _ _ _ | exact wsign_ok _ _ _ _ _ _ _ _ _ _ | exact wsign_ok _ _ _ _ _ _ _ _ _ _ _)).add 159 (one cMul) (one_sat fun xs σ v σ' d h => by
    unfold cMul at h; split at h <;> cases h; first | exact mul_ok | exact mul_ok _ | exact mul_ok _ _ | exact mul_ok _ _ _ | exact mul_ok _ _ _ _ | exact mul_ok _ _ _ _ _ | exact mul_ok _ _ _ _ _ _ | exact mul_ok _ _ _ _ _ _ _ | exact mul_ok _ _ _ _ _ _ _ _ | exact mul_ok _ _ _ _ _ _ _ _ _ | exact mul_ok _ _ _ _ _ _ _ _ _ _ | exact mul_ok _ _ _ _ _ _ _ _ _ _ _)).add 169 (one cAdd) (one_sat fun xs σ v σ' d h => by
    unfold cAdd at h; split at h <;> cases h; first | exact add_ok | exact add_ok _ | exact add_ok _ _ | exact add_ok _ _ _ | exact add_ok _ _ _ _ | exact add_ok _ _ _ _ _ | exact add_ok _ _ _ _ _ _ | exact add_ok _ _ _ _ _ _ _ | exact add_ok _ _ _ _ _ _ _ _ | exact add_ok _ _ _ _ _ _ _ _ _ | exact add_ok _ _ _ _ _ _ _ _ _ _ | exact add_ok _ _ _ _ _ _ _ _ _ _ _)).add 156 (one cNeg) (one_sat fun xs σ v σ' d h => by
    unfold cNeg at h; split at h <;> cases h; first | exact neg_ok | exact neg_ok _ | exact neg_ok _ _ | exact neg_ok _ _ _ | exact neg_ok _ _ _ _ | exact neg_ok _ _ _ _ _ | exact neg_ok _ _ _ _ _ _ | exact neg_ok _ _ _ _ _ _ _ | exact neg_ok _ _ _ _ _ _ _ _ | exact neg_ok _ _ _ _ _ _ _ _ _ | exact neg_ok _ _ _ _ _ _ _ _ _ _ | exact neg_ok _ _ _ _ _ _ _ _ _ _ _)
theorem pfrom_ok (ax ay bx ey : Int) : CallOK Tryz.prog 153 [.agg [.int .i64 ax, .int .i64 ay], .agg [.int .i64 bx, .int .i64 ey]] [] (.agg [.int .i64 (w64 (bx - ax)), .int .i64 (w64 (ey - ay))]) [] [] :=
  run_ok p1 2 fun _ _ K hK => by
    have e : ∀ K, run p1 2 153 [.agg [.int .i64 ax, .int .i64 ay], .agg [.int .i64 bx, .int .i64 ey]] [] K = K (.agg [.int .i64 (w64 (bx - ax)), .int .i64 (w64 (ey - ay))]) [] [] := fun K => by kernel_rfl
    rw [e]; exact hK
theorem pdot_ok (ux uy vx vy : Int) : CallOK Tryz.prog 155 [.agg [.int .i64 ux, .int .i64 uy], .agg [.int .i64 vx, .int .i64 vy]] [] (wideSV (dotW ux uy vx vy)) [] [] :=
  run_ok p1 2 fun _ _ K hK => by
    have e : ∀ K, run p1 2 155 [.agg [.int .i64 ux, .int .i64 uy], .agg [.int .i64 vx, .int .i64 vy]] [] K = K (wideSV (dotW ux uy vx vy)) [] [] := fun K => by kernel_rfl
    rw [e]; exact hK
theorem pcross_ok (ux uy vx vy : Int) : CallOK Tryz.prog 165 [.agg [.int .i64 ux, .int .i64 uy], .agg [.int .i64 vx, .int .i64 vy]] [] (wideSV (crossW ux uy vx vy)) [] [] :=
  run_ok p1 3 fun _ _ K hK => by
    have e : ∀ K, run p1 3 165 [.agg [.int .i64 ux, .int .i64 uy], .agg [.int .i64 vx, .int .i64 vy]] [] K = K (wideSV (crossW ux uy vx vy)) [] [] := fun K => by kernel_rfl
    rw [e]; exact hK
def cPFrom : List SV → List (Option SB) → Out
  | [.agg [.int .i64 ax, .int .i64 ay], .agg [.int .i64 bx, .int .i64 ey]], [] => some (.agg [.int .i64 (w64 (bx - ax)), .int .i64 (w64 (ey - ay))], [], [])
  | _, _ => none
def cPDot : List SV → List (Option SB) → Out
  | [.agg [.int .i64 ux, .int .i64 uy], .agg [.int .i64 vx, .int .i64 vy]], [] => some (wideSV (dotW ux uy vx vy), [], [])
  | _, _ => none
def cPCross : List SV → List (Option SB) → Out
  | [.agg [.int .i64 ux, .int .i64 uy], .agg [.int .i64 vx, .int .i64 vy]], [] => some (wideSV (crossW ux uy vx vy), [], [])
  | _, _ => none
/-- Is a place near enough? -/
def nearQ (x y : Int) (F T : Prop) : Prop := Br (decide ((if y > x then y else x) > 281474976710656)) F (Br (decide ((if y < x then y else x) < -281474976710656)) F T)
theorem nearQ_law {x y : Int} {F T : Prop} (hF : farB x y = true → F) (hT : farB x y = false → T) : nearQ x y F T := by
  unfold nearQ
  unfold farB at hF hT
  refine Br.of (fun c => hF ?_) fun c => Br.of (fun c2 => hF ?_) fun c2 => hT ?_
  · rw [c]; rfl
  · rw [c, c2]; rfl
  · rw [c, c2]; rfl
theorem pnear_ok (t : TypeId) (ax ay bx ey x y : Int) : CallOK Tryz.prog 149 [.arr 0 0 3 3] [some (.cells t [.int .i64 ax, .int .i64 ay, .int .i64 bx, .int .i64 ey, .int .i64 x, .int .i64 y])] (.bool (!farT ax ay bx ey x y))
    [some (.cells t [.int .i64 ax, .int .i64 ay, .int .i64 bx, .int .i64 ey, .int .i64 x, .int .i64 y])] [] :=
  runU_ok 5 p1 2 fun _ _ K hK => by
    have e : ∀ K, runU 5 p1 2 149 [.arr 0 0 3 3] [some (.cells t [.int .i64 ax, .int .i64 ay, .int .i64 bx, .int .i64 ey, .int .i64 x, .int .i64 y])] K =
      (fun F T => nearQ ax ay F (nearQ bx ey F (nearQ x y F T))) (K (.bool false) [some (.cells t [.int .i64 ax, .int .i64 ay, .int .i64 bx, .int .i64 ey, .int .i64 x, .int .i64 y])] []) (K (.bool true) [some (.cells t [.int .i64 ax, .int .i64 ay, .int .i64 bx, .int .i64 ey, .int .i64 x, .int .i64 y])] []) := fun K => by kernel_rfl
    rw [e]
    unfold farT at hK
    refine nearQ_law (fun c => ?_) fun c => nearQ_law (fun c2 => ?_) fun c2 => nearQ_law (fun c3 => ?_) fun c3 => ?_
    · rw [c] at hK; exact hK
    · rw [c, c2] at hK; exact hK
    · rw [c, c2, c3] at hK; exact hK
    · rw [c, c2, c3] at hK; exact hK
def cPNear : List SV → List (Option SB) → Out
  | [.arr 0 0 3 3], [some (.cells t [.int .i64 ax, .int .i64 ay, .int .i64 bx, .int .i64 ey, .int .i64 x, .int .i64 y])] =>
    some (.bool (!farT ax ay bx ey x y), [some (.cells t [.int .i64 ax, .int .i64 ay, .int .i64 bx, .int .i64 ey, .int .i64 x, .int .i64 y])], [])
  | _, _ => none
noncomputable def p2 : Know Tryz.prog := ((((p1).add 153 (one cPFrom) (one_sat fun xs σ v σ' d h => by
    unfold cPFrom at h; split at h <;> cases h; first | exact pfrom_ok | exact pfrom_ok _ | exact pfrom_ok _ _ | exact pfrom_ok _ _ _ | exact pfrom_ok _ _ _ _ | exact pfrom_ok _ _ _ _ _ | exact pfrom_ok _ _ _ _ _ _ | exact pfrom_ok _ _ _ _ _ _ _ | exact pfrom_ok _ _ _ _ _ _ _ _ | exact pfrom_ok _ _ _ _ _ _ _ _ _ | exact pfrom_ok _ _ _ _ _ _ _ _ _ _ | exact pfrom_ok _ _ _ _ _ _ _ _ _ _ _)).add 155 (one cPDot) (one_sat fun xs σ v σ' d h => by
    unfold cPDot at h; split at h <;> cases h; first | exact pdot_ok | exact pdot_ok _ | exact pdot_ok _ _ | exact pdot_ok _ _ _ | exact pdot_ok _ _ _ _ | exact pdot_ok _ _ _ _ _ | exact pdot_ok _ _ _ _ _ _ | exact pdot_ok _ _ _ _ _ _ _ | exact pdot_ok _ _ _ _ _ _ _ _ | exact pdot_ok _ _ _ _ _ _ _ _ _ | exact pdot_ok _ _ _ _ _ _ _ _ _ _ | exact pdot_ok _ _ _ _ _ _ _ _ _ _ _)).add 165 (one cPCross) (one_sat fun xs σ v σ' d h => by
    unfold cPCross at h; split at h <;> cases h; first | exact pcross_ok | exact pcross_ok _ | exact pcross_ok _ _ | exact pcross_ok _ _ _ | exact pcross_ok _ _ _ _ | exact pcross_ok _ _ _ _ _ | exact pcross_ok _ _ _ _ _ _ | exact pcross_ok _ _ _ _ _ _ _ | exact pcross_ok _ _ _ _ _ _ _ _ | exact pcross_ok _ _ _ _ _ _ _ _ _ | exact pcross_ok _ _ _ _ _ _ _ _ _ _ | exact pcross_ok _ _ _ _ _ _ _ _ _ _ _)).add 149 (one cPNear) (one_sat fun xs σ v σ' d h => by
    unfold cPNear at h; split at h <;> cases h; first | exact pnear_ok | exact pnear_ok _ | exact pnear_ok _ _ | exact pnear_ok _ _ _ | exact pnear_ok _ _ _ _ | exact pnear_ok _ _ _ _ _ | exact pnear_ok _ _ _ _ _ _ | exact pnear_ok _ _ _ _ _ _ _ | exact pnear_ok _ _ _ _ _ _ _ _ | exact pnear_ok _ _ _ _ _ _ _ _ _ | exact pnear_ok _ _ _ _ _ _ _ _ _ _ | exact pnear_ok _ _ _ _ _ _ _ _ _ _ _)
def withinW (ax ay bx ey x y : Int) : Bool := decide (0 ≤ dotAW ax ay bx ey x y) && decide (0 ≤ dotAW bx ey ax ay x y)
theorem pwithin_ok (ax ay bx ey x y : Int) : CallOK Tryz.prog 152 [.agg [.int .i64 ax, .int .i64 ay], .agg [.int .i64 bx, .int .i64 ey], .agg [.int .i64 x, .int .i64 y]] [] (.bool (withinW ax ay bx ey x y)) [] [] :=
  run_ok p2 2 fun _ _ K hK => by
    have e : ∀ K, run p2 2 152 [.agg [.int .i64 ax, .int .i64 ay], .agg [.int .i64 bx, .int .i64 ey], .agg [.int .i64 x, .int .i64 y]] [] K =
      Br (decide (cmpI (wvw (dotAW ax ay bx ey x y)) 0 ≥ 0)) (K (.bool (decide (cmpI (wvw (dotAW bx ey ax ay x y)) 0 ≥ 0))) [] []) (K (.bool false) [] []) := fun K => by kernel_rfl
    rw [e, cmpI_ge, cmpI_ge, wvw_eq, wvw_eq]
    unfold withinW at hK
    refine Br.of (fun c => ?_) fun c => ?_ <;> rw [c] at hK <;> exact hK
theorem parea_ok (ax ay bx ey x y : Int) : CallOK Tryz.prog 150 [.agg [.int .i64 ax, .int .i64 ay], .agg [.int .i64 bx, .int .i64 ey], .agg [.int .i64 x, .int .i64 y]] [] (wideSV (areaW ax ay bx ey x y)) [] [] :=
  run_ok p2 2 fun _ _ K hK => by
    have e : ∀ K, run p2 2 150 [.agg [.int .i64 ax, .int .i64 ay], .agg [.int .i64 bx, .int .i64 ey], .agg [.int .i64 x, .int .i64 y]] [] K = K (wideSV (areaW ax ay bx ey x y)) [] [] := fun K => by kernel_rfl
    rw [e]; exact hK
def cPWithin : List SV → List (Option SB) → Out
  | [.agg [.int .i64 ax, .int .i64 ay], .agg [.int .i64 bx, .int .i64 ey], .agg [.int .i64 x, .int .i64 y]], [] => some (.bool (withinW ax ay bx ey x y), [], [])
  | _, _ => none
def cPArea : List SV → List (Option SB) → Out
  | [.agg [.int .i64 ax, .int .i64 ay], .agg [.int .i64 bx, .int .i64 ey], .agg [.int .i64 x, .int .i64 y]], [] => some (wideSV (areaW ax ay bx ey x y), [], [])
  | _, _ => none
noncomputable def p3 : Know Tryz.prog := ((p2).add 152 (one cPWithin) (one_sat fun xs σ v σ' d h => by
    unfold cPWithin at h; split at h <;> cases h; first | exact pwithin_ok | exact pwithin_ok _ | exact pwithin_ok _ _ | exact pwithin_ok _ _ _ | exact pwithin_ok _ _ _ _ | exact pwithin_ok _ _ _ _ _ | exact pwithin_ok _ _ _ _ _ _ | exact pwithin_ok _ _ _ _ _ _ _ | exact pwithin_ok _ _ _ _ _ _ _ _ | exact pwithin_ok _ _ _ _ _ _ _ _ _ | exact pwithin_ok _ _ _ _ _ _ _ _ _ _ | exact pwithin_ok _ _ _ _ _ _ _ _ _ _ _)).add 150 (one cPArea) (one_sat fun xs σ v σ' d h => by
    unfold cPArea at h; split at h <;> cases h; first | exact parea_ok | exact parea_ok _ | exact parea_ok _ _ | exact parea_ok _ _ _ | exact parea_ok _ _ _ _ | exact parea_ok _ _ _ _ _ | exact parea_ok _ _ _ _ _ _ | exact parea_ok _ _ _ _ _ _ _ | exact parea_ok _ _ _ _ _ _ _ _ | exact parea_ok _ _ _ _ _ _ _ _ _ | exact parea_ok _ _ _ _ _ _ _ _ _ _ | exact parea_ok _ _ _ _ _ _ _ _ _ _ _)
/-- The rest of Beyond: how far. -/
def beyQ (A L : Int) (K : KC) : Prop :=
  Br (!divGood (wvw A) L) (K (.int .i64 0) [] []) (Br (decide (cmpI (wvw (divV (wvw A) L * L)) (wvw A) < 0)) (K (.int .i64 (IntKind.i64.wrap (divV (wvw A) L + 1))) [] []) (K (.int .i64 (divV (wvw A) L)) [] []))
theorem pbey_entry (ax ay bx ey x y : Int) (K : KC) : run p3 2 129 [.agg [.int .i64 ax, .int .i64 ay], .agg [.int .i64 bx, .int .i64 ey], .agg [.int .i64 x, .int .i64 y]] [] K =
    Br (!!farT ax ay bx ey x y) (K (.int .i64 0) [] []) (Br (decide (cmpI (wvw (areaW ax ay bx ey x y)) 0 ≥ 0)) (K (.int .i64 0) [] []) (Br (!withinW ax ay bx ey x y) (K (.int .i64 0) [] [])
      (beyQ (negW (areaW ax ay bx ey x y)) (IntKind.i64.wrap (isqrt (wvw (dotW (w64 (bx - ax)) (w64 (ey - ay)) (w64 (bx - ax)) (w64 (ey - ay)))))) K))) := by kernel_rfl
theorem pbey_ok (ax ay bx ey x y : Int) : CallOK Tryz.prog 129 [.agg [.int .i64 ax, .int .i64 ay], .agg [.int .i64 bx, .int .i64 ey], .agg [.int .i64 x, .int .i64 y]] [] (.int .i64 (beyV ax ay bx ey x y)) [] [] :=
  run_ok p3 2 fun _ _ K hK => by
    rw [pbey_entry]
    unfold beyV at hK
    refine Br.of (fun c => ?_) fun c => ?_
    · rw [Bool.not_not] at c; rw [c] at hK; exact hK
    rw [Bool.not_not] at c; rw [c] at hK
    simp only [cond_false] at hK
    obtain ⟨⟨h1, h2⟩, ⟨h3, h4⟩, ⟨h5, h6⟩⟩ := bey_facts c
    have r1 := area_range c
    rw [cmpI_ge, wvw_eq, areaW_eq c]
    unfold withinW
    rw [dotAW_eq h1 h2 h3 h4, dotAW_eq (by omega) (by omega) h5 h6]
    refine Br.of (fun c1 => ?_) fun c1 => Br.of (fun c2 => ?_) fun c2 => ?_
    · rw [c1] at hK; exact hK
    · rw [c1] at hK
      have : (decide (dotA ax ay bx ey x y < 0) || decide (dotA bx ey ax ay x y < 0)) = true := by
        simp only [Bool.not_eq_true', Bool.and_eq_false_iff, decide_eq_false_iff_not] at c2
        simp only [Bool.or_eq_true, decide_eq_true_eq]; omega
      rw [this] at hK; exact hK
    · have c1' := of_decide_eq_false c1
      rw [c1] at hK
      have : (decide (dotA ax ay bx ey x y < 0) || decide (dotA bx ey ax ay x y < 0)) = false := by
        simp only [Bool.not_eq_false', Bool.and_eq_true, decide_eq_true_eq] at c2
        simp only [Bool.or_eq_false_iff, decide_eq_false_iff_not]; omega
      rw [this] at hK
      simp only [Bool.or_false, cond_false] at hK
      obtain ⟨l1, l2, l3⟩ := area_long c (by omega)
      have hd : dotW (w64 (bx - ax)) (w64 (ey - ay)) (w64 (bx - ax)) (w64 (ey - ay)) = dotA ax ay bx ey bx ey := dotAW_eq h1 h2 h1 h2
      rw [hd, wvw_eq, wi64]
      generalize hL : isqrt (dotA ax ay bx ey bx ey) = L at *
      rw [show (L + 9223372036854775808) % 18446744073709551616 - 9223372036854775808 = L by omega, negW_eq (by omega) (by omega)]
      generalize hA : -areaV ax ay bx ey x y = A at *
      have hr := ceil_rne (A := A) (L := L) (by omega) l1
      have hdn : divN A L = rneQ A L := by
        unfold divN absI
        rw [decide_eq_false (show ¬ A < 0 by omega), decide_eq_false (show ¬ L < 0 by omega)]; rfl
      have hc0 : 0 ≤ ceilD A L ∧ ceilD A L ≤ 1125899906842624 := by
        unfold ceilD
        refine ⟨Int.ediv_nonneg (by omega) (by omega), ?_⟩
        have : (A + L - 1) / L < 1125899906842625 := by rw [Int.ediv_lt_iff_lt_mul l1]; omega
        omega
      have hq0 : 0 ≤ rneQ A L := by
        have := Int.ediv_nonneg (show 0 ≤ A by omega) (show 0 ≤ L by omega)
        unfold rneQ; cases ((decide (A % L > L - A % L) || A % L == L - A % L && A / L % 2 == 1) && decide (A % L > 0)) <;> simp only [cond_true, cond_false] <;> omega
      have hq : rneQ A L ≤ ceilD A L := by
        rw [← hr]; cases decide (rneQ A L * L < A) <;> simp only [cond_true, cond_false] <;> omega
      have hg : divGood A L = true := by
        unfold divGood
        rw [hdn, (in64_iff _).2 (by omega), Bool.and_true, bne_iff_ne]; omega
      have hv : divV A L = rneQ A L := by unfold divV; rw [hg, hdn]; rfl
      unfold beyQ
      rw [wvw_eq, hg, hv, wvw_eq]
      refine Br.of (fun c => by cases c) fun _ => ?_
      have hcm : decide (cmpI (rneQ A L * L) A < 0) = decide (rneQ A L * L < A) := by
        unfold cmpI
        cases h : decide (rneQ A L * L < A)
        · simp only [cond_false]; cases decide (A < rneQ A L * L) <;> rfl
        · rfl
      rw [hcm]
      refine Br.of (fun c3 => ?_) fun c3 => ?_ <;> rw [c3] at hr
      · simp only [cond_true] at hr
        rw [wi64, show (rneQ A L + 1 + 9223372036854775808) % 18446744073709551616 - 9223372036854775808 = rneQ A L + 1 by omega, hr]
        exact hK
      · simp only [cond_false] at hr
        rw [hr]; exact hK
def cPBey : List SV → List (Option SB) → Out
  | [.agg [.int .i64 ax, .int .i64 ay], .agg [.int .i64 bx, .int .i64 ey], .agg [.int .i64 x, .int .i64 y]], [] => some (.int .i64 (beyV ax ay bx ey x y), [], [])
  | _, _ => none
noncomputable def p4 : Know Tryz.prog := (p3).add 129 (one cPBey) (one_sat fun xs σ v σ' d h => by
    unfold cPBey at h; split at h <;> cases h; first | exact pbey_ok | exact pbey_ok _ | exact pbey_ok _ _ | exact pbey_ok _ _ _ | exact pbey_ok _ _ _ _ | exact pbey_ok _ _ _ _ _ | exact pbey_ok _ _ _ _ _ _ | exact pbey_ok _ _ _ _ _ _ _ | exact pbey_ok _ _ _ _ _ _ _ _ | exact pbey_ok _ _ _ _ _ _ _ _ _ | exact pbey_ok _ _ _ _ _ _ _ _ _ _ | exact pbey_ok _ _ _ _ _ _ _ _ _ _ _)
end Go.Proofs.YtbedljhbakdghaaGreatDoor
