/- Part 34: the reference's fixed point numbers: plain. -/
import Derived.Test.YtikgaohaplkjiaaDoorSeNum
import Derived.Test.YtikgaohaplkjiaaDoorSeArith
import Derived.Test.YtikgaohaplkjiaaDoorSeTrig
namespace Go.Se
def bndP (t : TypeId) (neg : Bool) (K : KC) : Prop :=
  Br neg (K (.int .i64 (-9223372036854775808)) [some (.cells t [.bool true])] [0]) (K (.int .i64 9223372036854775807) [some (.cells t [.bool true])] [0])
def sgnQ (t : TypeId) (o neg : Bool) (n : Int) (K : KC) : Prop :=
  Br (decide (n > 9223372036854775807)) (bndP t neg K) (Br neg (K (.int .i64 (IntKind.i64.wrap (0 - IntKind.i64.wrap n))) [some (.cells t [.bool o])] []) (K (.int .i64 (IntKind.i64.wrap n)) [some (.cells t [.bool o])] []))
def sgnP (t : TypeId) (o neg : Bool) (n : Int) (K : KC) : Prop :=
  Br neg (Br (n == 9223372036854775808) (K (.int .i64 (-9223372036854775808)) [some (.cells t [.bool o])] []) (sgnQ t o neg n K)) (sgnQ t o neg n K)
theorem kfx_in {t : TypeId} {o : Bool} {v : Int} {K : KC} (hK : KFx t o v K) (h0 : -9223372036854775808 ≤ v) (h1 : v ≤ 9223372036854775807) {w : Int} (hw : w = v) : K (.int .i64 w) [some (.cells t [.bool o])] [] := by
  have := hK [] fun p h => nomatch h
  unfold sat64 over64 at this
  rw [decide_eq_false (show ¬ v < -9223372036854775808 by omega), decide_eq_false (show ¬ 9223372036854775807 < v by omega)] at this
  rw [hw]
  simpa using this
theorem bnd_law {t : TypeId} {o neg : Bool} {v : Int} {K : KC} (hK : KFx t o v K) (h : bif neg then decide (v < -9223372036854775808) else decide (9223372036854775807 < v)) : bndP t neg K := by
  have := hK [0] fun p h => h
  unfold sat64 over64 at this
  refine Br.of (fun c => ?_) fun c => ?_ <;> subst c
  · have h : decide (v < -9223372036854775808) = true := h
    rw [h] at this; simpa using this
  · have h : decide (9223372036854775807 < v) = true := h
    have h' := of_decide_eq_true h
    rw [h, decide_eq_false (show ¬ v < -9223372036854775808 by omega)] at this; simpa using this
theorem sgn_law {t : TypeId} {o neg : Bool} {n v : Int} {K : KC} (h0 : 0 ≤ n) (h1 : n < 18446744073709551616) (hv : v = bif neg then -n else n) (hK : KFx t o v K) : sgnP t o neg n K := by
  have hq : n ≠ 9223372036854775808 ∨ neg = false → sgnQ t o neg n K := fun hne => by
    unfold sgnQ
    refine Br.of (fun c => bnd_law hK ?_) fun c => Br.of (fun d => ?_) fun d => ?_
    · have := of_decide_eq_true c
      cases neg
      · simp only [cond_false] at hv ⊢; simp only [decide_eq_true_eq]; omega
      · simp only [cond_true] at hv ⊢; simp only [decide_eq_true_eq]
        rcases hne with h | h
        · omega
        · cases h
    · subst d
      have := of_decide_eq_false c
      simp only [cond_true] at hv
      exact kfx_in hK (by omega) (by omega) (by simp only [wi64]; omega)
    · subst d
      have := of_decide_eq_false c
      simp only [cond_false] at hv
      exact kfx_in hK (by omega) (by omega) (by simp only [wi64]; omega)
  unfold sgnP
  refine Br.of (fun c => Br.of (fun d => ?_) fun d => hq (.inl ?_)) fun c => hq (.inr c)
  · subst c
    have : n = 9223372036854775808 := by simpa using d
    simp only [cond_true] at hv
    exact kfx_in hK (by omega) (by omega) (by omega)
  · simpa using d
def stepM (t : TypeId) (neg : Bool) (p q : Int) (K : KC) (F : Int → Prop) : Prop := Br (decide (IntKind.u64.wrap (p + q) < p)) (bndP t neg K) (F (IntKind.u64.wrap (p + q)))
def rndM (t : TypeId) (o neg : Bool) (rest p : Int) (K : KC) : Prop :=
  Br (decide (rest > 2147483648)) (stepM t neg p 1 K fun p => sgnP t o neg p K) (Br (rest == 2147483648)
    (Br (p.tmod 2 == 1) (stepM t neg p 1 K fun p => sgnP t o neg p K) (stepM t neg p 0 K fun p => sgnP t o neg p K)) (stepM t neg p 0 K fun p => sgnP t o neg p K))
def mulM (t : TypeId) (o neg : Bool) (x1 x0 y1 y0 : Int) (K : KC) : Prop :=
  Br (decide (IntKind.u64.wrap (x1 * y1) ≥ 4294967296)) (bndP t neg K)
    (stepM t neg (IntKind.u64.wrap (IntKind.u64.wrap (x1 * y1) * 4294967296)) (IntKind.u64.wrap (x1 * y0)) K fun p => stepM t neg p (IntKind.u64.wrap (x0 * y1)) K fun p =>
      stepM t neg p (IntKind.u64.wrap ((IntKind.u64.wrap (x0 * y0)).tdiv 4294967296)) K fun p => rndM t o neg ((IntKind.u64.wrap (x0 * y0)).tmod 4294967296) p K)
def rneA (N : Int) : Int := bif decide (N % 4294967296 > 2147483648) || (N % 4294967296 == 2147483648 && N / 4294967296 % 2 == 1) then N / 4294967296 + 1 else N / 4294967296
theorem rneA_cases (N : Int) : (N % 4294967296 > 2147483648 ∨ (N % 4294967296 = 2147483648 ∧ N / 4294967296 % 2 = 1)) ∧ rneA N = N / 4294967296 + 1 ∨
    ¬ (N % 4294967296 > 2147483648 ∨ (N % 4294967296 = 2147483648 ∧ N / 4294967296 % 2 = 1)) ∧ rneA N = N / 4294967296 := by
  unfold rneA
  cases h : decide (N % 4294967296 > 2147483648) || (N % 4294967296 == 2147483648 && N / 4294967296 % 2 == 1)
  · refine .inr ⟨?_, rfl⟩
    simp only [Bool.or_eq_false_iff, decide_eq_false_iff_not, Bool.and_eq_false_iff, beq_eq_false_iff_ne, ne_eq] at h
    omega
  · refine .inl ⟨?_, rfl⟩
    simpa only [Bool.or_eq_true, decide_eq_true_eq, Bool.and_eq_true, beq_iff_eq] using h
theorem rne32_A (p : Int) : rne32 p = rneA p := rfl
theorem rneA_neg (N : Int) : rneA (-N) = -rneA N := by
  rcases rneA_cases N with ⟨h1, h2⟩ | ⟨h1, h2⟩ <;> rcases rneA_cases (-N) with ⟨h3, h4⟩ | ⟨h3, h4⟩ <;> rw [h2, h4] <;> omega
theorem stepM_law {t : TypeId} {o neg : Bool} {p q v G : Int} {K : KC} {F : Int → Prop} (hK : KFx t o v K) (hp : 0 ≤ p) (hp' : p < 18446744073709551616) (hq : 0 ≤ q) (hq' : q < 18446744073709551616) (hG : p + q ≤ G) (hv : v = bif neg then -G else G) (hF : p + q < 18446744073709551616 → F (p + q)) : stepM t neg p q K F := by
  unfold stepM
  rw [wu64]
  refine Br.of (fun c => bnd_law hK ?_) fun c => ?_
  · have c := of_decide_eq_true c
    cases neg
    · simp only [cond_false] at hv ⊢; simp only [decide_eq_true_eq]; omega
    · simp only [cond_true] at hv ⊢; simp only [decide_eq_true_eq]; omega
  · have c := of_decide_eq_false c
    rw [show (p + q) % 18446744073709551616 = p + q by omega]
    exact hF (by omega)
theorem mulM_law {t : TypeId} {o neg : Bool} {X Y v : Int} {K : KC} (hX : 0 ≤ X) (hX' : X ≤ 18446744073709551615) (hY : 0 ≤ Y) (hY' : Y ≤ 18446744073709551615) (hv : v = bif neg then -rneA (X * Y) else rneA (X * Y))
    (hK : KFx t o v K) : mulM t o neg (X / 4294967296) (X % 4294967296) (Y / 4294967296) (Y % 4294967296) K := by
  obtain ⟨h0, h1, h2, h3, h4, h5, h6, h7, h8⟩ := mul_hi hX hX' hY hY' rfl rfl rfl rfl
  unfold mulM
  have hc := rneA_cases (X * Y)
  simp only [u64_tdiv, u64_tmod]
  simp only [wu64]
  generalize X / 4294967296 * (Y / 4294967296) = p at *
  generalize X / 4294967296 * (Y % 4294967296) = q at *
  generalize X % 4294967296 * (Y / 4294967296) = r at *
  generalize X % 4294967296 * (Y % 4294967296) = s at *
  generalize X * Y = N at *
  rw [show p % 18446744073709551616 = p by omega, show q % 18446744073709551616 = q by omega, show r % 18446744073709551616 = r by omega, show s % 18446744073709551616 / 4294967296 % 18446744073709551616 = s / 4294967296 by omega,
    show s % 18446744073709551616 % 4294967296 = s % 4294967296 by omega]
  have hfl : N / 4294967296 = p * 4294967296 + q + r + s / 4294967296 := by omega
  have hre : N % 4294967296 = s % 4294967296 := by omega
  have hG : N / 4294967296 ≤ rneA N := by rcases hc with ⟨_, h⟩ | ⟨_, h⟩ <;> omega
  refine Br.of (fun c => bnd_law hK ?_) fun c => ?_
  · have c := of_decide_eq_true c
    cases neg
    · simp only [cond_false] at hv ⊢; simp only [decide_eq_true_eq]; omega
    · simp only [cond_true] at hv ⊢; simp only [decide_eq_true_eq]; omega
  · have c := of_decide_eq_false c
    rw [show p * 4294967296 % 18446744073709551616 = p * 4294967296 by omega]
    refine stepM_law hK (by omega) (by omega) (by omega) (by omega) (G := rneA N) (by omega) hv fun g1 => stepM_law hK (by omega) (by omega) (by omega) (by omega) (G := rneA N) (by omega) hv fun g2 =>
      stepM_law hK (by omega) (by omega) (by omega) (by omega) (G := rneA N) (by omega) hv fun g3 => ?_
    rw [← hfl] at g3 ⊢
    have hN0 : 0 ≤ N / 4294967296 := by omega
    unfold rndM
    rw [← hre, Int.tmod_eq_emod_of_nonneg hN0]
    have up : N / 4294967296 + 1 = rneA N → stepM t neg (N / 4294967296) 1 K fun p => sgnP t o neg p K := fun e =>
      stepM_law hK hN0 g3 (by omega) (by omega) (G := rneA N) (by omega) hv fun g4 => sgn_law (by omega) g4 (by rw [e]; exact hv) hK
    have dn : N / 4294967296 = rneA N → stepM t neg (N / 4294967296) 0 K fun p => sgnP t o neg p K := fun e =>
      stepM_law hK hN0 g3 (by omega) (by omega) (G := rneA N) (by omega) hv fun g4 => sgn_law (by omega) g4 (by rw [Int.add_zero, e]; exact hv) hK
    refine Br.of (fun c1 => up ?_) fun c1 => Br.of (fun c2 => Br.of (fun c3 => up ?_) fun c3 => dn ?_) fun c2 => dn ?_ <;>
      simp only [decide_eq_true_eq, decide_eq_false_iff_not] at c1 <;> (try simp only [beq_iff_eq, beq_eq_false_iff_ne, ne_eq] at c2) <;> (try simp only [beq_iff_eq, beq_eq_false_iff_ne, ne_eq] at c3) <;> omega
theorem rne32_sign (a b : Int) : rne32 (a * b) = bif !(decide (a < 0) == decide (b < 0)) then -rneA (absI a * absI b) else rneA (absI a * absI b) := by
  rw [rne32_A]
  unfold absI
  by_cases ha : a < 0 <;> by_cases hb : b < 0
  · rw [decide_eq_true ha, decide_eq_true hb]; show _ = rneA (-a * -b); rw [Int.neg_mul_neg]
  · rw [decide_eq_true ha, decide_eq_false hb]; show _ = -rneA (-a * b); rw [Int.neg_mul, rneA_neg, Int.neg_neg]
  · rw [decide_eq_false ha, decide_eq_true hb]; show _ = -rneA (a * -b); rw [Int.mul_neg, rneA_neg, Int.neg_neg]
  · rw [decide_eq_false ha, decide_eq_false hb]; rfl
def addM (t : TypeId) (o : Bool) (a b : Int) (K : KC) : Prop :=
  (fun low fin => Br (decide (b > 0)) (Br (decide (a > IntKind.i64.wrap (9223372036854775807 - b))) (K (.int .i64 9223372036854775807) [some (.cells t [.bool true])] [0]) (Br (decide (b < 0)) low fin)) (Br (decide (b < 0)) low fin))
    (Br (decide (a < IntKind.i64.wrap (-9223372036854775808 - b))) (K (.int .i64 (-9223372036854775808)) [some (.cells t [.bool true])] [0]) (K (.int .i64 (IntKind.i64.wrap (a + b))) [some (.cells t [.bool o])] []))
    (K (.int .i64 (IntKind.i64.wrap (a + b))) [some (.cells t [.bool o])] [])
def subM (t : TypeId) (o : Bool) (a b : Int) (K : KC) : Prop :=
  (fun low fin => Br (decide (b < 0)) (Br (decide (a > IntKind.i64.wrap (9223372036854775807 + b))) (K (.int .i64 9223372036854775807) [some (.cells t [.bool true])] [0]) (Br (decide (b > 0)) low fin)) (Br (decide (b > 0)) low fin))
    (Br (decide (a < IntKind.i64.wrap (-9223372036854775808 + b))) (K (.int .i64 (-9223372036854775808)) [some (.cells t [.bool true])] [0]) (K (.int .i64 (IntKind.i64.wrap (a - b))) [some (.cells t [.bool o])] []))
    (K (.int .i64 (IntKind.i64.wrap (a - b))) [some (.cells t [.bool o])] [])
theorem addM_law {t : TypeId} {o : Bool} {a b : Int} {K : KC} (ha : -9223372036854775808 ≤ a) (ha' : a ≤ 9223372036854775807) (hb : -9223372036854775808 ≤ b) (hb' : b ≤ 9223372036854775807) (hK : KFx t o (a + b) K) : addM t o a b K := by
  have hi : 9223372036854775807 < a + b → K (.int .i64 9223372036854775807) [some (.cells t [.bool true])] [0] := fun h => bnd_law (neg := false) hK (decide_eq_true h)
  have lo : a + b < -9223372036854775808 → K (.int .i64 (-9223372036854775808)) [some (.cells t [.bool true])] [0] := fun h => bnd_law (neg := true) hK (decide_eq_true h)
  have mid : -9223372036854775808 ≤ a + b → a + b ≤ 9223372036854775807 → K (.int .i64 (IntKind.i64.wrap (a + b))) [some (.cells t [.bool o])] [] := fun h h' => kfx_in hK h h' (by rw [wi64]; omega)
  unfold addM
  simp only [wi64] at mid ⊢
  refine Br.of (fun c1 => Br.of (fun c2 => hi ?_) fun c2 => Br.of (fun c3 => Br.of (fun c4 => lo ?_) fun c4 => mid ?_ ?_) fun c3 => mid ?_ ?_) fun c1 => Br.of (fun c3 => Br.of (fun c4 => lo ?_) fun c4 => mid ?_ ?_) fun c3 => mid ?_ ?_ <;>
    (try simp only [decide_eq_true_eq, decide_eq_false_iff_not] at c1) <;> (try simp only [decide_eq_true_eq, decide_eq_false_iff_not] at c2) <;> (try simp only [decide_eq_true_eq, decide_eq_false_iff_not] at c3) <;> (try simp only [decide_eq_true_eq, decide_eq_false_iff_not] at c4) <;> omega
theorem subM_law {t : TypeId} {o : Bool} {a b : Int} {K : KC} (ha : -9223372036854775808 ≤ a) (ha' : a ≤ 9223372036854775807) (hb : -9223372036854775808 ≤ b) (hb' : b ≤ 9223372036854775807) (hK : KFx t o (a - b) K) : subM t o a b K := by
  have hi : 9223372036854775807 < a - b → K (.int .i64 9223372036854775807) [some (.cells t [.bool true])] [0] := fun h => bnd_law (neg := false) hK (decide_eq_true h)
  have lo : a - b < -9223372036854775808 → K (.int .i64 (-9223372036854775808)) [some (.cells t [.bool true])] [0] := fun h => bnd_law (neg := true) hK (decide_eq_true h)
  have mid : -9223372036854775808 ≤ a - b → a - b ≤ 9223372036854775807 → K (.int .i64 (IntKind.i64.wrap (a - b))) [some (.cells t [.bool o])] [] := fun h h' => kfx_in hK h h' (by rw [wi64]; omega)
  unfold subM
  simp only [wi64] at mid ⊢
  refine Br.of (fun c1 => Br.of (fun c2 => hi ?_) fun c2 => Br.of (fun c3 => Br.of (fun c4 => lo ?_) fun c4 => mid ?_ ?_) fun c3 => mid ?_ ?_) fun c1 => Br.of (fun c3 => Br.of (fun c4 => lo ?_) fun c4 => mid ?_ ?_) fun c3 => mid ?_ ?_ <;>
    (try simp only [decide_eq_true_eq, decide_eq_false_iff_not] at c1) <;> (try simp only [decide_eq_true_eq, decide_eq_false_iff_not] at c2) <;> (try simp only [decide_eq_true_eq, decide_eq_false_iff_not] at c3) <;> (try simp only [decide_eq_true_eq, decide_eq_false_iff_not] at c4) <;> omega
end Go.Se

/- Part 35: sines rise, and so directions are found bit by bit as by halving: plain. -/
namespace Go.Se
def nvX (x : Int) : Int := nv (decide (x < 0)) (absI x % 4294967296) (absI x / 4294967296 % 4294967296) (absI x / 18446744073709551616 % 4294967296) (absI x / 79228162514264337593543950336 % 4294967296)
def okX (x : Int) : Bool := dOkD (absI x)
theorem okX_eq (x : Int) : okX x = true := dOkD_eq _
theorem nvX_eq {x : Int} (h0 : -340282366920938463463374607431768211456 < x) (h1 : x < 340282366920938463463374607431768211456) : nvX x = x := nv_num h0 h1
def rsinP (q r : Int) (K : KC) : Prop :=
  (fun i => If (sinG i) (Br (decide (i < 64)) (If (sinG (IntKind.i64.wrap (i + 1))) ((fun p => If (okX p) (sinX q (IntKind.i64.wrap (tabV i + divV (nvX p) 16777216)) K)) (IntKind.i64.wrap (tabV (IntKind.i64.wrap (i + 1)) - tabV i) * r.tmod 16777216)))
    (sinX q (tabV i) K))) (IntKind.i64.wrap (r.tdiv 16777216))
def rsinW (t : Int) (K : KC) : Prop :=
  (fun q => Br (q.tmod 2 == 1) (rsinP q (IntKind.i64.wrap (1073741824 - IntKind.i64.wrap (t.tmod 1073741824))) K) (rsinP q (IntKind.i64.wrap (t.tmod 1073741824)) K)) (IntKind.u32.wrap (t.tdiv 1073741824))
theorem tab_rise : ∀ n, n < 64 → sinTab.getD n 0 ≤ sinTab.getD (n + 1) 0 := by decide
theorem tab_mono (a : Nat) : ∀ k, a + k ≤ 64 → sinTab.getD a 0 ≤ sinTab.getD (a + k) 0
  | 0, _ => Int.le_refl _
  | k + 1, h => Int.le_trans (tab_mono a k (by omega)) (tab_rise (a + k) (by omega))
theorem tabV_nat {n : Nat} (h : n ≤ 64) : tabV (n : Int) = sinTab.getD n 0 := by
  unfold tabV
  rw [decide_eq_false (show ¬ (n : Int) < 0 by omega), decide_eq_false (show ¬ (n : Int) > 64 by omega)]
  rfl
theorem tabV_mono {i j : Int} (h0 : 0 ≤ i) (h1 : i ≤ j) (h2 : j ≤ 64) : tabV i ≤ tabV j := by
  obtain ⟨a, rfl⟩ := Int.eq_ofNat_of_zero_le h0
  obtain ⟨b, rfl⟩ := Int.eq_ofNat_of_zero_le (show 0 ≤ j by omega)
  rw [tabV_nat (by omega), tabV_nat (by omega)]
  have := tab_mono a (b - a) (by omega)
  rwa [show a + (b - a) = b by omega] at this
theorem tabV_range {i : Int} (h0 : 0 ≤ i) (h2 : i ≤ 64) : 0 ≤ tabV i ∧ tabV i ≤ 4294967296 :=
  ⟨tabV_mono (Int.le_refl 0) h0 h2, tabV_mono h0 h2 (Int.le_refl 64)⟩
theorem rneQ24 (n : Int) (h : 0 ≤ n) : 2 * n - 16777216 ≤ 33554432 * rneQ n 16777216 ∧ 33554432 * rneQ n 16777216 ≤ 2 * n + 16777216 ∧ 0 ≤ rneQ n 16777216 := by
  unfold rneQ
  cases hc : (decide (n % 16777216 > 16777216 - n % 16777216) || (n % 16777216 == 16777216 - n % 16777216 && n / 16777216 % 2 == 1)) && decide (n % 16777216 > 0)
  · simp only [cond_false]
    have : ¬ n % 16777216 > 16777216 - n % 16777216 := fun h1 => by
      rw [decide_eq_true h1, Bool.true_or, Bool.true_and] at hc
      have := of_decide_eq_false hc; omega
    omega
  · simp only [cond_true]
    simp only [Bool.and_eq_true, Bool.or_eq_true, decide_eq_true_eq, beq_iff_eq] at hc
    omega
theorem rneQ24_mono {n m : Int} (h : 0 ≤ n) (hm : n ≤ m) : rneQ n 16777216 ≤ rneQ m 16777216 := by
  rcases Int.lt_or_eq_of_le hm with h1 | rfl
  · have a := rneQ24 n h
    have b := rneQ24 m (by omega)
    omega
  · exact Int.le_refl _
theorem rneQ24_mul (d : Int) : rneQ (d * 16777216) 16777216 = d := by
  unfold rneQ
  rw [show d * 16777216 % 16777216 = 0 by omega, show d * 16777216 / 16777216 = d by omega]
  rw [show decide ((0 : Int) > 0) = false from rfl, Bool.and_false]; rfl
theorem divV24 {n : Int} (h : 0 ≤ n) (h1 : n < 1208925819614629174706176) : divV n 16777216 = rneQ n 16777216 := by
  have hr := rneQ24 n h
  have hn : divN n 16777216 = rneQ n 16777216 := by
    unfold divN absI
    rw [decide_eq_false (show ¬ n < 0 by omega)]; rfl
  unfold divV divGood
  rw [hn, (in64_iff _).2 (by omega)]; rfl
/-- A sine of the first quarter, plainly. -/
theorem sinR_eq {r : Int} (h0 : 0 ≤ r) (h1 : r ≤ 1073741824) : (r / 16777216 < 64 ∧ sinR r = tabV (r / 16777216) + rneQ ((tabV (r / 16777216 + 1) - tabV (r / 16777216)) * (r % 16777216)) 16777216) ∨ (r = 1073741824 ∧ sinR r = 4294967296) := by
  by_cases hr : r = 1073741824
  · exact .inr ⟨hr, by subst hr; decide⟩
  · refine .inl ⟨by omega, ?_⟩
    have hi : r / 16777216 < 64 := by omega
    have t1 := tabV_range (i := r / 16777216) (by omega) (by omega)
    have t2 := tabV_range (i := r / 16777216 + 1) (by omega) (by omega)
    have t3 := tabV_mono (i := r / 16777216) (j := r / 16777216 + 1) (by omega) (by omega) (by omega)
    unfold sinR
    by_cases hf : r % 16777216 > 0
    · rw [decide_eq_true hf]
      simp only [cond_true]
      have hw : IntKind.i64.wrap (tabV (r / 16777216 + 1) - tabV (r / 16777216)) = tabV (r / 16777216 + 1) - tabV (r / 16777216) := by rw [wi64]; omega
      rw [hw]
      have hd0 : 0 ≤ tabV (r / 16777216 + 1) - tabV (r / 16777216) := by omega
      have hd1 : tabV (r / 16777216 + 1) - tabV (r / 16777216) ≤ 4294967296 := by omega
      have hp0 : 0 ≤ (tabV (r / 16777216 + 1) - tabV (r / 16777216)) * (r % 16777216) := Int.mul_nonneg hd0 (by omega)
      have hp1 : (tabV (r / 16777216 + 1) - tabV (r / 16777216)) * (r % 16777216) ≤ 4294967296 * 16777216 := Int.mul_le_mul hd1 (by omega) (by omega) (by omega)
      rw [divV24 hp0 (by omega)]
      have := rneQ24 _ hp0
      rw [wi64]; omega
    · rw [decide_eq_false hf, show r % 16777216 = 0 by omega, Int.mul_zero, Int.mul_zero]
      have : rneQ 0 16777216 = 0 := by decide
      rw [this]; simp only [cond_false, Int.add_zero]
theorem sinR_mono {r s : Int} (h0 : 0 ≤ r) (h1 : r ≤ s) (h2 : s ≤ 1073741824) : sinR r ≤ sinR s := by
  have seg : ∀ r : Int, 0 ≤ r → r / 16777216 < 64 → tabV (r / 16777216) ≤ tabV (r / 16777216) + rneQ ((tabV (r / 16777216 + 1) - tabV (r / 16777216)) * (r % 16777216)) 16777216 ∧
      tabV (r / 16777216) + rneQ ((tabV (r / 16777216 + 1) - tabV (r / 16777216)) * (r % 16777216)) 16777216 ≤ tabV (r / 16777216 + 1) := fun r h0 hi => by
    have t3 := tabV_mono (i := r / 16777216) (j := r / 16777216 + 1) (by omega) (by omega) (by omega)
    have hp0 : 0 ≤ (tabV (r / 16777216 + 1) - tabV (r / 16777216)) * (r % 16777216) := Int.mul_nonneg (by omega) (by omega)
    have hp1 : (tabV (r / 16777216 + 1) - tabV (r / 16777216)) * (r % 16777216) ≤ (tabV (r / 16777216 + 1) - tabV (r / 16777216)) * 16777216 := Int.mul_le_mul_of_nonneg_left (by omega) (by omega)
    have a := (rneQ24 _ hp0).2.2
    have b := rneQ24_mono hp0 hp1
    rw [rneQ24_mul] at b
    omega
  rcases sinR_eq h0 (by omega) with ⟨hi, e⟩ | ⟨rfl, e⟩
  · rcases sinR_eq (show 0 ≤ s by omega) h2 with ⟨hj, e'⟩ | ⟨rfl, e'⟩
    · by_cases hij : r / 16777216 = s / 16777216
      · rw [e, e', ← hij]
        have t3 := tabV_mono (i := r / 16777216) (j := r / 16777216 + 1) (by omega) (by omega) (by omega)
        have hp0 : 0 ≤ (tabV (r / 16777216 + 1) - tabV (r / 16777216)) * (r % 16777216) := Int.mul_nonneg (by omega) (by omega)
        have hp1 : (tabV (r / 16777216 + 1) - tabV (r / 16777216)) * (r % 16777216) ≤ (tabV (r / 16777216 + 1) - tabV (r / 16777216)) * (s % 16777216) := Int.mul_le_mul_of_nonneg_left (by omega) (by omega)
        have := rneQ24_mono hp0 hp1
        omega
      · have a := (seg r h0 hi).2
        have b := (seg s (by omega) hj).1
        have c := tabV_mono (i := r / 16777216 + 1) (j := s / 16777216) (by omega) (by omega) (by omega)
        omega
    · have a := (seg r h0 hi).2
      have c := (tabV_range (i := r / 16777216 + 1) (by omega) (by omega)).2
      omega
  · have : s = 1073741824 := by omega
    subst this
    exact Int.le_refl _
theorem sinR_range {r : Int} (h0 : 0 ≤ r) (h1 : r ≤ 1073741824) : 0 ≤ sinR r ∧ sinR r ≤ 4294967296 := by
  have a := sinR_mono (Int.le_refl 0) h0 h1
  have b := sinR_mono h0 h1 (Int.le_refl _)
  have e0 : sinR 0 = 0 := by decide
  have e1 : sinR 1073741824 = 4294967296 := by decide
  omega
theorem sinF_quarter {t : Int} (h0 : 0 ≤ t) (h1 : t ≤ 1073741824) : sinF t = sinR t := by
  unfold sinF
  by_cases h : t = 1073741824
  · subst h; decide
  · rw [show t / 1073741824 = 0 by omega, show t % 1073741824 = t by omega]; rfl
theorem cosF_quarter {t : Int} (h0 : 0 ≤ t) (h1 : t ≤ 1073741824) : cosF t = sinR (1073741824 - t) := by
  unfold cosF sinF
  by_cases h : t = 1073741824
  · subst h; decide
  · rw [show (t + 1073741824) % 4294967296 = t + 1073741824 by omega, show (t + 1073741824) / 1073741824 = 1 by omega, show (t + 1073741824) % 1073741824 = t by omega]; rfl
/-- What holds at a direction, holds at those before it. -/
theorem holds_down {x y s t : Int} (hx : 0 ≤ x) (hy : 0 ≤ y) (h0 : 0 ≤ s) (h1 : s ≤ t) (h2 : t ≤ 1073741824) (h : holdsF x y t = true) : holdsF x y s = true := by
  have ge : ∀ a b : Int, decide (cmpI a b ≥ 0) = true ↔ b ≤ a := fun a b => by
    unfold cmpI
    rw [decide_eq_true_eq]
    by_cases h1 : a < b
    · rw [decide_eq_true h1]; simp only [cond_true]; omega
    · by_cases h2 : b < a
      · rw [decide_eq_false h1, decide_eq_true h2]; simp only [cond_true, cond_false]; omega
      · rw [decide_eq_false h1, decide_eq_false h2]; simp only [cond_false]; omega
  unfold holdsF at h ⊢
  rw [ge] at h ⊢
  rw [sinF_quarter h0 (by omega), cosF_quarter h0 (by omega)]
  rw [sinF_quarter (by omega) h2, cosF_quarter (by omega) h2] at h
  have a : x * sinR s ≤ x * sinR t := Int.mul_le_mul_of_nonneg_left (sinR_mono h0 h1 h2) hx
  have b : y * sinR (1073741824 - t) ≤ y * sinR (1073741824 - s) := Int.mul_le_mul_of_nonneg_left (sinR_mono (by omega) (by omega) (by omega)) hy
  omega
theorem holds_zero {x y : Int} (hy : 0 ≤ y) : holdsF x y 0 = true := by
  have e1 : sinF 0 = 0 := by decide
  have e2 : cosF 0 = 4294967296 := by decide
  unfold holdsF cmpI
  rw [e1, e2, Int.mul_zero, decide_eq_false (show ¬ y * 4294967296 < 0 by omega)]
  cases decide (0 < y * 4294967296) <;> rfl
structure Last (x y t : Int) : Prop where
  lo : 0 ≤ t
  hi : t ≤ 1073741824
  at' : holdsF x y t = true
  beyond : ∀ s, t < s → s ≤ 1073741824 → holdsF x y s = false
theorem Last.unique {x y s t : Int} (a : Last x y s) (b : Last x y t) : s = t := by
  rcases Int.lt_trichotomy s t with h | h | h
  · have := a.beyond t h b.hi; rw [b.at'] at this; cases this
  · exact h
  · have := b.beyond s h a.hi; rw [a.at'] at this; cases this
theorem no_up {x y s t : Int} (hx : 0 ≤ x) (hy : 0 ≤ y) (h0 : 0 ≤ s) (h1 : s ≤ t) (h2 : t ≤ 1073741824) (h : holdsF x y s = false) : holdsF x y t = false := by
  cases ht : holdsF x y t with
  | false => rfl
  | true => rw [holds_down hx hy h0 h1 h2 ht] at h; cases h
theorem firstF_last {x y : Int} (hx : 0 ≤ x) (hy : 0 ≤ y) : ∀ (f : Nat) (lo hi : Int), 0 ≤ lo → lo ≤ hi → hi ≤ 1073741824 → hi - lo < 2 ^ f → holdsF x y lo = true → (∀ s, hi < s → s ≤ 1073741824 → holdsF x y s = false) → Last x y (firstF x y f lo hi)
  | 0, lo, hi, h0, h1, h2, h3, h4, h5 => by
    have : hi = lo := by simp at h3; omega
    subst this
    exact ⟨h0, h2, h4, h5⟩
  | f + 1, lo, hi, h0, h1, h2, h3, h4, h5 => by
    have hp : (2 : Int) ^ (f + 1) = 2 ^ f * 2 := Int.pow_succ 2 f
    rw [hp] at h3
    unfold firstF
    by_cases hlt : lo < hi
    · rw [decide_eq_true hlt]
      simp only [cond_true]
      cases hm : holdsF x y (lo + (hi - lo + 1) / 2)
      · simp only [cond_false]
        exact firstF_last hx hy f lo _ h0 (by omega) (by omega) (by omega) h4 fun s hs hs' => no_up hx hy (by omega) (show lo + (hi - lo + 1) / 2 ≤ s by omega) hs' hm
      · simp only [cond_true]
        exact firstF_last hx hy f _ hi (by omega) (by omega) h2 (by omega) hm h5
    · rw [decide_eq_false hlt]
      have : hi = lo := by omega
      subst this
      exact ⟨h0, h2, h4, h5⟩
theorem firstV_last {x y : Int} (hx : 0 ≤ x) (hy : 0 ≤ y) : Last x y (firstV x y) :=
  firstF_last hx hy 31 0 1073741824 (by omega) (by omega) (by omega) (by decide) (holds_zero hy) fun s h h' => by omega
theorem firstV_range {x y : Int} (hx : 0 ≤ x) (hy : 0 ≤ y) : 0 ≤ firstV x y ∧ firstV x y ≤ 1073741824 := ⟨(firstV_last hx hy).lo, (firstV_last hx hy).hi⟩
theorem rsinP_law {q r : Int} {K : KC} (h0 : 0 ≤ r) (h1 : r ≤ 1073741824) (hK : K (.int .i64 (bif decide (q ≥ 2) then IntKind.i64.wrap (0 - sinR r) else sinR r)) [] []) : rsinP q r K := by
  have hi : IntKind.i64.wrap (r.tdiv 16777216) = r / 16777216 := by rw [Int.tdiv_eq_ediv_of_nonneg h0, wi64]; omega
  have hm : r.tmod 16777216 = r % 16777216 := Int.tmod_eq_emod_of_nonneg h0
  have fin : ∀ s, s = sinR r → sinX q s K := by
    rintro s rfl
    unfold sinX
    refine Br.of (fun c => ?_) fun c => ?_ <;> rw [c] at hK <;> exact hK
  unfold rsinP
  rw [hi, hm]
  refine If.mk (by unfold sinG; simp only [Bool.and_eq_true, decide_eq_true_eq]; omega) (Br.of (fun c => If.mk ?_ (If.mk (okX_eq _) (fin _ ?_))) fun c => fin _ ?_)
  · have c' := of_decide_eq_true c
    rw [wi64]; unfold sinG; simp only [Bool.and_eq_true, decide_eq_true_eq]; omega
  · have c' := of_decide_eq_true c
    rw [show IntKind.i64.wrap (r / 16777216 + 1) = r / 16777216 + 1 by rw [wi64]; omega]
    have t1 := tabV_range (i := r / 16777216) (by omega) (by omega)
    have t2 := tabV_range (i := r / 16777216 + 1) (by omega) (by omega)
    have t3 := tabV_mono (i := r / 16777216) (j := r / 16777216 + 1) (by omega) (by omega) (by omega)
    have hw : IntKind.i64.wrap (tabV (r / 16777216 + 1) - tabV (r / 16777216)) = tabV (r / 16777216 + 1) - tabV (r / 16777216) := by rw [wi64]; omega
    rw [hw]
    have hd0 : 0 ≤ tabV (r / 16777216 + 1) - tabV (r / 16777216) := by omega
    have hd1 : tabV (r / 16777216 + 1) - tabV (r / 16777216) ≤ 4294967296 := by omega
    have hp0 : 0 ≤ (tabV (r / 16777216 + 1) - tabV (r / 16777216)) * (r % 16777216) := Int.mul_nonneg hd0 (by omega)
    have hp1 : (tabV (r / 16777216 + 1) - tabV (r / 16777216)) * (r % 16777216) ≤ 4294967296 * 16777216 := Int.mul_le_mul hd1 (by omega) (by omega) (by omega)
    rw [nvX_eq (by omega) (by omega), divV24 hp0 (by omega)]
    have := rneQ24 _ hp0
    rcases sinR_eq h0 h1 with ⟨_, e⟩ | ⟨e, _⟩
    · rw [e, wi64]; omega
    · omega
  · have c' := of_decide_eq_false c
    have : r = 1073741824 := by omega
    subst this
    decide
theorem rsinW_law {t : Int} {K : KC} (h0 : 0 ≤ t) (h1 : t ≤ 4294967295) (hK : K (.int .i64 (sinF t)) [] []) : rsinW t K := by
  have hq : IntKind.u32.wrap (t.tdiv 1073741824) = t / 1073741824 := by rw [Int.tdiv_eq_ediv_of_nonneg h0, wu32]; omega
  have hm : IntKind.i64.wrap (t.tmod 1073741824) = t % 1073741824 := by rw [Int.tmod_eq_emod_of_nonneg h0, wi64]; omega
  unfold rsinW
  rw [hq, hm]
  show Br _ _ _
  rw [Int.tmod_eq_emod_of_nonneg (show 0 ≤ t / 1073741824 by omega), show IntKind.i64.wrap (1073741824 - t % 1073741824) = 1073741824 - t % 1073741824 by rw [wi64]; omega]
  unfold sinF at hK
  refine Br.of (fun c => rsinP_law (by omega) (by omega) ?_) fun c => rsinP_law (by omega) (by omega) ?_
  · rw [c] at hK; exact hK
  · rw [c] at hK; exact hK
end Go.Se

