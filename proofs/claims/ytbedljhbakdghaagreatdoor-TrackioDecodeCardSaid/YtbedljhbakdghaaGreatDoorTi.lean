import Derived.Test.YtbedljhbakdghaaGreatDoorTg
namespace Go.Proofs.YtbedljhbakdghaaGreatDoor
open Go.Se
set_option maxRecDepth 100000
def smallC (nr : Nat) (rl : Nat → List SV) : Prop := nr ≤ 20 ∧ ∀ i, i < nr → rlen (rl i) ≤ 100
def cBars : List SV → List (Option SB) → KC → Prop
  | [.agg [.int .i64 a0, .int .i64 a1, .int .i64 a2, .int .i64 a3, .int .i64 a4, .int .i64 a5, .ro nh 1 h, .ro ng 1 g, .ro nk 3 kg, .ro nl 2 l, .ro nr 1 rl, .ro nt 5 gt, .int .i64 sx, .int .i64 sy, .int .u32 hd, .int .i64 lp]], [], K => trkS h g kg l rl gt ∧ smallC nr rl ∧ K (.ro (barL (trkOf a0 a1 a2 a3 a4 a5 nh h ng g nk kg nl l nr rl nt gt sx sy hd lp)).length 5 (barG (barL (trkOf a0 a1 a2 a3 a4 a5 nh h ng g nk kg nl l nr rl nt gt sx sy hd lp)))) [] []
  | _, _, _ => False
theorem bars_sat (xs : List SV) (σ : List (Option SB)) : Sat Tryz.prog 128 xs σ (cBars xs σ) := by
  intro K hK
  unfold cBars at hK
  split at hK
  · obtain ⟨h1, h2, hK⟩ := hK
    refine ⟨_, _, _, hK, ?_⟩
    rw [trkC_of h1]
    exact bars_ok _ h2
  · exact hK.elim
def cErr (v : Trk → Int × Int) : List SV → List (Option SB) → KC → Prop
  | [.agg [.int .i64 a0, .int .i64 a1, .int .i64 a2, .int .i64 a3, .int .i64 a4, .int .i64 a5, .ro nh 1 h, .ro ng 1 g, .ro nk 3 kg, .ro nl 2 l, .ro nr 1 rl, .ro nt 5 gt, .int .i64 sx, .int .i64 sy, .int .u32 hd, .int .i64 lp]], [], K => trkS h g kg l rl gt ∧ smallC nr rl ∧ errK (v (trkOf a0 a1 a2 a3 a4 a5 nh h ng g nk kg nl l nr rl nt gt sx sy hd lp)) K
  | _, _, _ => False
theorem err_some {c : Int × Int} {K : KC} (h : errK c K) : ∃ v σ' d, K v σ' d := by
  unfold errK at h
  cases hc : c.1 == 0 <;> rw [hc] at h <;> exact ⟨_, _, _, h⟩
theorem cErr_sat {k : FuncId} {v : Trk → Int × Int} (h : ∀ t : Trk, smallR t → t.nr < 9223372036854775808 → t.nt < 9223372036854775808 → Sat Tryz.prog k [.agg (trkC t)] [] (errK (v t))) (xs : List SV) (σ : List (Option SB)) : Sat Tryz.prog k xs σ (cErr v xs σ) := by
  refine sat_of_ok (fun K hK => ?_) fun hx _ K hK => ?_ <;> unfold cErr at hK <;> split at hK
  · exact err_some hK.2.2
  · exact hK.elim
  · obtain ⟨⟨_, _, _, _, _, _, _, _, _, _, hr, ht, _⟩, _⟩ := hx
    rw [trkC_of hK.1]
    refine h _ ?_ hr.1 ht.1 K hK.2.2
    exact hK.2.1
  · exact hK.elim
theorem ground_sat (xs : List SV) (σ : List (Option SB)) : Sat Tryz.prog 97 xs σ (cErr (fun t => (groundV t, 0)) xs σ) :=
  cErr_sat (fun t _ _ _ K hK => calls_sat (env := tab.env p9 (fun _ => 0) (fun _ => false)) ⟨tab.htt, p9.ok⟩ tab.mixed (fun n => keepW_weaker n []) tab.hft 4 _ _ _ K (ground_law t K hK)) xs σ
theorem rails_sat (xs : List SV) (σ : List (Option SB)) : Sat Tryz.prog 98 xs σ (cErr railsV xs σ) :=
  cErr_sat (fun t _ h _ K hK => calls_sat (env := tab.env p9 (fun _ => 0) (fun _ => false)) ⟨tab.htt, p9.ok⟩ tab.mixed (fun n => keepW_weaker n trlR) tab.hft 4 _ _ _ K (rails_law t h K hK)) xs σ
theorem gates_sat (xs : List SV) (σ : List (Option SB)) : Sat Tryz.prog 99 xs σ (cErr gatesV xs σ) :=
  cErr_sat (fun t _ _ h K hK => calls_sat (env := tab.env p9 (fun _ => 0) (fun _ => false)) ⟨tab.htt, p9.ok⟩ tab.mixed (fun n => keepW_weaker n tgtR) tab.hft 4 _ _ _ K (gates_law t h K hK)) xs σ
noncomputable def p10 : Know Tryz.prog := (((((p9).add 128 cBars bars_sat).add 97 (cErr (fun t => (groundV t, 0))) ground_sat).add 98 (cErr railsV) rails_sat).add 99 (cErr gatesV) gates_sat).add 129 (one cPBey) (one_sat fun xs σ v σ' d h => by
    unfold cPBey at h; split at h <;> cases h; first | exact pbey_ok | exact pbey_ok _ | exact pbey_ok _ _ | exact pbey_ok _ _ _ | exact pbey_ok _ _ _ _ | exact pbey_ok _ _ _ _ _ | exact pbey_ok _ _ _ _ _ _ | exact pbey_ok _ _ _ _ _ _ _ | exact pbey_ok _ _ _ _ _ _ _ _ | exact pbey_ok _ _ _ _ _ _ _ _ _ | exact pbey_ok _ _ _ _ _ _ _ _ _ _ | exact pbey_ok _ _ _ _ _ _ _ _ _ _ _)
def tsR : List (Nat × Keep) := [(0, ⟨[1, 2, 60, 61, 62], [0, 4], [1, 2, 3, 4, 5, 6, 7], 5, [(2, 4)]⟩)]
def tsS (t : Trk) (L : List Bar) (i : Int) : St := ⟨[(1, .ptr 0 0), (2, .nilI), (60, .ro L.length 5 (barG L)), (61, .int .i64 L.length), (62, .int .i64 i)], [(0, some (.cells 34 (trkC t))), (4, none)], 5, [1, 2, 3, 4, 5, 6, 7], 88⟩
def tsT (t : Trk) (L : List Bar) (c a i : Int) : St := ⟨[(1, .ptr 0 0), (2, .iface 106 (.ptr 4 0)), (60, .ro L.length 5 (barG L)), (61, .int .i64 L.length), (62, .int .i64 i)], [(0, some (.cells 34 (trkC t))), (4, some (.cells 113 [.int .i64 c, .int .i64 a]))], 5, [1, 2, 3, 4, 5, 6, 7], 88⟩
noncomputable abbrev tsE : Env := envL tsR (fun _ => 0) p10 3
noncomputable abbrev tsF : Func := Tryz.f100
abbrev tsP : List Nat := [1, 1, 1, 1, 0, 1, 0]
theorem ts_entry (t : Trk) (K : KC) : runL tsR (fun _ => 0) p10 4 100 [.agg (trkC t)] [] K =
  (Br (decide (t.sx < t.cx)) (K (SV.iface 106 (SV.ptr 0 0)) [some (SB.cells 113 [SV.int .i64 40, SV.int .i64 0])] []) (Br (decide (t.sy < t.cy)) (K (SV.iface 106 (SV.ptr 0 0)) [some (SB.cells 113 [SV.int .i64 40, SV.int .i64 0])] []) (Br (decide (t.sx > IntKind.i64.wrap (t.cx + IntKind.i64.wrap (t.cols * t.cell)))) (K (SV.iface 106 (SV.ptr 0 0)) [some (SB.cells 113 [SV.int .i64 40, SV.int .i64 0])] []) (Br (decide (t.sy > IntKind.i64.wrap (t.cy + IntKind.i64.wrap (t.rows * t.cell)))) (K (SV.iface 106 (SV.ptr 0 0)) [some (SB.cells 113 [SV.int .i64 40, SV.int .i64 0])] []) ((trkS (oneG t.h) (oneG t.g) (kindG t) (ptsG t.lx t.ly) (railG t) (gateG t)) ∧ ((smallC t.nr (railG t)) ∧ (∃ q_, loopE tsE (keepW tsR 0) tsF tsP 0 0 K q_ { tmps := [(1, SV.ptr 0 0), (2, SV.nilI), (60, SV.ro (barL t).length 5 (barG (barL t))), (61, SV.int .i64 (↑(barL t).length : Int)), (62, SV.int .i64 0)], store := [(0, some (SB.cells 34 (trkC t))), (4, none)], nxt := 5, dirty := [1, 2, 3, 4, 5, 6, 7], nt := 88 }))))))) := by kernel_rfl
theorem ts_round (t : Trk) (L : List Bar) (i : Nat) (K : Ex → St → Prop) : roundE tsE (keepW tsR 0) tsF tsP 0 K (tsS t L i) =
  (Br (decide ((↑i : Int) < (↑L.length : Int))) (Br (decide (0 ≤ (↑i : Int)) && decide ((↑i : Int) < (↑L.length : Int))) (Br (decide (0 < beyV (L.getD (↑i : Int).toNat bar0).fst (L.getD (↑i : Int).toNat bar0).snd.fst (L.getD (↑i : Int).toNat bar0).snd.snd.fst (L.getD (↑i : Int).toNat bar0).snd.snd.snd.fst t.sx t.sy)) (Br (decide (beyV (L.getD (↑i : Int).toNat bar0).fst (L.getD (↑i : Int).toNat bar0).snd.fst (L.getD (↑i : Int).toNat bar0).snd.snd.fst (L.getD (↑i : Int).toNat bar0).snd.snd.snd.fst t.sx t.sy ≤ 17179869184)) (K Ex.ret { tmps := [(1, SV.ptr 0 0), (2, SV.iface 106 (SV.ptr 4 0)), (60, SV.ro L.length 5 (barG L)), (61, SV.int .i64 (↑L.length : Int)), (62, SV.int .i64 (↑i : Int))], store := [(0, some (SB.cells 34 (trkC t))), (4, some (SB.cells 113 [SV.int .i64 43, SV.int .i64 0]))], nxt := 5, dirty := [1, 2, 3, 4, 5, 6, 7], nt := 88 }) (K Ex.normal { tmps := [(1, SV.ptr 0 0), (2, SV.nilI), (60, SV.ro L.length 5 (barG L)), (61, SV.int .i64 (↑L.length : Int)), (62, SV.int .i64 (IntKind.i64.wrap ((↑i : Int) + 1)))], store := [(0, some (SB.cells 34 (trkC t))), (4, none)], nxt := 5, dirty := [1, 2, 3, 4, 5, 6, 7], nt := 88 })) (K Ex.normal { tmps := [(1, SV.ptr 0 0), (2, SV.nilI), (60, SV.ro L.length 5 (barG L)), (61, SV.int .i64 (↑L.length : Int)), (62, SV.int .i64 (IntKind.i64.wrap ((↑i : Int) + 1)))], store := [(0, some (SB.cells 34 (trkC t))), (4, none)], nxt := 5, dirty := [1, 2, 3, 4, 5, 6, 7], nt := 88 })) (False)) (K (Ex.exit 0) { tmps := [(1, SV.ptr 0 0), (2, SV.nilI), (60, SV.ro L.length 5 (barG L)), (61, SV.int .i64 (↑L.length : Int)), (62, SV.int .i64 (↑i : Int))], store := [(0, some (SB.cells 34 (trkC t))), (4, none)], nxt := 5, dirty := [1, 2, 3, 4, 5, 6, 7], nt := 88 })) := by kernel_rfl
theorem ts_ret (t : Trk) (L : List Bar) (c a i : Int) (K : KC) : afterE tsE (keepW tsR 0) tsF tsP 0 K .ret (tsT t L c a i) =
  (K (SV.iface 106 (SV.ptr 0 0)) [some (SB.cells 113 [SV.int .i64 c, SV.int .i64 a])] []) := by kernel_rfl
theorem ts_after (t : Trk) (L : List Bar) (i : Int) (K : KC) : afterE tsE (keepW tsR 0) tsF tsP 0 K (.exit 0) (tsS t L i) =
  (Br (decide (1 ≤ t.laps)) (Br (!!decide (t.laps ≤ 100)) (K SV.nilI [] []) (K (SV.iface 106 (SV.ptr 0 0)) [some (SB.cells 113 [SV.int .i64 40, SV.int .i64 0])] [])) (K (SV.iface 106 (SV.ptr 0 0)) [some (SB.cells 113 [SV.int .i64 40, SV.int .i64 0])] [])) := by kernel_rfl
theorem start_law (t : Trk) (hs : smallR t) (K : KC) (hK : errK (startV t) K) : runL tsR (fun _ => 0) p10 4 100 [.agg (trkC t)] [] K := by
  rw [ts_entry]
  unfold startV outB at hK
  refine Br.of (fun c1 => ?_) fun c1 => Br.of (fun c2 => ?_) fun c2 => Br.of (fun c3 => ?_) fun c3 => Br.of (fun c4 => ?_) fun c4 => ⟨trkS_of t, hs, ?_⟩
  · rw [c1] at hK; exact hK
  · rw [c1, c2] at hK; exact hK
  · rw [c1, c2, c3] at hK; exact hK
  · rw [c1, c2, c3, c4] at hK; exact hK
  rw [c1, c2, c3, c4] at hK
  simp only [Bool.or_false, cond_false] at hK
  have hlen : (barL t).length ≤ 2000 := by
    have := allBars_len hs.2 t.nr (Nat.le_refl _)
    have h2 : t.nr * 100 ≤ 20 * 100 := Nat.mul_le_mul_right _ hs.1
    unfold barL
    omega
  generalize hLL : barL t = L at hlen ⊢
  refine ⟨L.length + 1, loop_up (fun i : Nat => tsS t L i) L.length (fun i => ∀ j, j < i → nearBar t (L.getD j bar0) = false) (fun i hi hI X hX => ?_) (fun hI X => ?_) (fun j hj => absurd hj (Nat.not_lt_zero j))⟩
  · have hret : nearBar t (L.getD i bar0) = true → nextK X (afterE tsE (keepW tsR 0) tsF tsP 0 K) .ret (tsT t L 43 0 i) := fun h => by
      show afterE tsE (keepW tsR 0) tsF tsP 0 K .ret (tsT t L 43 0 i)
      rw [ts_ret]
      rw [show nearAny t = true by unfold nearAny; rw [hLL]; exact anyB_iff.2 ⟨i, hi, h⟩] at hK
      exact hK
    have hnext : nearBar t (L.getD i bar0) = false → nextK X (afterE tsE (keepW tsR 0) tsF tsP 0 K) .normal (tsS t L (i + 1 : Nat)) := fun h => hX fun j hj => by
      rcases Nat.lt_or_eq_of_le (Nat.le_of_lt_succ hj) with hj | rfl
      · exact hI j hj
      · exact h
    rw [ts_round, wi64_succ (n := L.length) hi (by omega)]
    simp only [Int.toNat_natCast]
    unfold nearBar at hret hnext
    refine Br.of (fun _ => Br.of (fun _ => Br.of (fun c1 => Br.of (fun c2 => hret ?_) fun c2 => hnext ?_) fun c1 => hnext ?_) fun c => ?_) fun c => ?_
    · rw [c1, c2]; rfl
    · rw [c1, c2]; rfl
    · rw [c1]; rfl
    · simp only [Bool.and_eq_false_iff, decide_eq_false_iff_not] at c; omega
    · have := of_decide_eq_false c; omega
  · rw [ts_round]
    refine Br.of (fun c => absurd (of_decide_eq_true c) (by omega)) fun _ => ?_
    show afterE tsE (keepW tsR 0) tsF tsP 0 K (.exit 0) (tsS t L L.length)
    rw [ts_after]
    rw [show nearAny t = false by unfold nearAny; rw [hLL]; exact anyB_false.2 hI] at hK
    unfold lapsB at hK
    simp only [cond_false] at hK
    refine Br.of (fun d1 => Br.of (fun d2 => ?_) fun d2 => ?_) fun d1 => ?_
    · rw [d1, show decide (t.laps ≤ 100) = true by rw [Bool.not_not] at d2; exact d2] at hK; exact hK
    · rw [d1, show decide (t.laps ≤ 100) = false by rw [Bool.not_not] at d2; exact d2] at hK; exact hK
    · rw [d1] at hK; exact hK
theorem start_sat (xs : List SV) (σ : List (Option SB)) : Sat Tryz.prog 100 xs σ (cErr startV xs σ) :=
  cErr_sat (fun t hs _ _ K hK => calls_sat (env := tab.env p10 (fun _ => 0) (fun _ => false)) ⟨tab.htt, p10.ok⟩ tab.mixed (fun n => keepW_weaker n tsR) tab.hft 4 _ _ _ K (start_law t hs K hK)) xs σ
noncomputable def p11 : Know Tryz.prog := (p10).add 100 (cErr startV) start_sat
theorem first_nf (t : Trk) (K : KC) : run p11 2 67 [.agg (trkC t)] [] K =
  ((trkS (oneG t.h) (oneG t.g) (kindG t) (ptsG t.lx t.ly) (railG t) (gateG t)) ∧ ((smallC t.nr (railG t)) ∧ (Br (((fun (t : Trk) => (groundV t, 0)) t).fst == 0) ((trkS (oneG t.h) (oneG t.g) (kindG t) (ptsG t.lx t.ly) (railG t) (gateG t)) ∧ ((smallC t.nr (railG t)) ∧ (Br ((railsV t).fst == 0) ((trkS (oneG t.h) (oneG t.g) (kindG t) (ptsG t.lx t.ly) (railG t) (gateG t)) ∧ ((smallC t.nr (railG t)) ∧ (Br ((gatesV t).fst == 0) ((trkS (oneG t.h) (oneG t.g) (kindG t) (ptsG t.lx t.ly) (railG t) (gateG t)) ∧ ((smallC t.nr (railG t)) ∧ (Br ((startV t).fst == 0) (K SV.nilI [] []) (K (SV.iface 106 (SV.ptr 0 0)) [some (SB.cells 113 [SV.int .i64 (startV t).fst, SV.int .i64 (startV t).snd])] [])))) (K (SV.iface 106 (SV.ptr 0 0)) [some (SB.cells 113 [SV.int .i64 (gatesV t).fst, SV.int .i64 (gatesV t).snd])] [])))) (K (SV.iface 106 (SV.ptr 0 0)) [some (SB.cells 113 [SV.int .i64 (railsV t).fst, SV.int .i64 (railsV t).snd])] [])))) (K (SV.iface 106 (SV.ptr 0 0)) [some (SB.cells 113 [SV.int .i64 ((fun (t : Trk) => (groundV t, 0)) t).fst, SV.int .i64 ((fun (t : Trk) => (groundV t, 0)) t).snd])] [])))) := by kernel_rfl
theorem beq_bne {x : Int} {b : Bool} (h : (x == 0) = b) : (x != 0) = !b := by rw [← h]; rfl
theorem first_law (t : Trk) (hs : smallR t) (K : KC) (hK : errK (rightV t) K) : run p11 2 67 [.agg (trkC t)] [] K := by
  rw [first_nf]
  unfold rightV orV at hK
  refine ⟨trkS_of t, hs, Br.of (fun c1 => ⟨trkS_of t, hs, Br.of (fun c2 => ⟨trkS_of t, hs, Br.of (fun c3 => ⟨trkS_of t, hs, Br.of (fun c4 => ?_) fun c4 => ?_⟩) fun c3 => ?_⟩) fun c2 => ?_⟩) fun c1 => ?_⟩
  · have c1' : (groundV t == 0) = true := c1
    simp only [beq_bne c1', beq_bne c2, beq_bne c3, Bool.not_true, cond_false] at hK
    unfold errK at hK; rw [c4] at hK; exact hK
  · have c1' : (groundV t == 0) = true := c1
    simp only [beq_bne c1', beq_bne c2, beq_bne c3, Bool.not_true, cond_false] at hK
    unfold errK at hK; rw [c4] at hK; exact hK
  · have c1' : (groundV t == 0) = true := c1
    simp only [beq_bne c1', beq_bne c2, beq_bne c3, Bool.not_true, Bool.not_false, cond_false, cond_true] at hK
    unfold errK at hK; rw [c3] at hK; exact hK
  · have c1' : (groundV t == 0) = true := c1
    simp only [beq_bne c1', beq_bne c2, Bool.not_true, Bool.not_false, cond_false, cond_true] at hK
    unfold errK at hK; rw [c2] at hK; exact hK
  · have c1' : (groundV t == 0) = false := c1
    simp only [beq_bne c1', Bool.not_false, cond_true] at hK
    unfold errK at hK
    simp only [c1'] at hK
    exact hK
theorem first_sat (xs : List SV) (σ : List (Option SB)) : Sat Tryz.prog 67 xs σ (cErr rightV xs σ) :=
  cErr_sat (fun t hs _ _ K hK => calls_sat (env := tab.env p11 (fun _ => 0) (fun _ => false)) ⟨tab.htt, p11.ok⟩ tab.mixed (fun n => keepW_weaker n []) tab.hft 2 _ _ _ K (first_law t hs K hK)) xs σ
noncomputable def p12 : Know Tryz.prog := ((p11).add 67 (cErr rightV) first_sat).add 66 cAs as_sat
theorem right_nf (t : Trk) (K : KC) : run p12 2 14 [.agg (trkC t)] [] K =
  ((trkS (oneG t.h) (oneG t.g) (kindG t) (ptsG t.lx t.ly) (railG t) (gateG t)) ∧ ((smallC t.nr (railG t)) ∧ (Br ((rightV t).fst == 0) (K (SV.tup [SV.int .i64 0, SV.int .i64 0]) [] []) (K (SV.tup [SV.int .i64 (rightV t).fst, SV.int .i64 (rightV t).snd]) [] [])))) := by kernel_rfl
theorem orV_0 {a b : Int × Int} (ha : a.1 = 0 → a.2 = 0) (hb : b.1 = 0 → b.2 = 0) : (orV a b).1 = 0 → (orV a b).2 = 0 := by
  unfold orV
  cases h : a.1 != 0
  · exact hb
  · exact ha
theorem fstW_0 {c : Nat → Int} : ∀ f i, (fstW c f i).1 = 0 → (fstW c f i).2 = 0
  | 0, _ => fun _ => rfl
  | f + 1, i => by
    unfold fstW
    cases h : c i != 0
    · exact fstW_0 f (i + 1)
    · intro h1
      have h1' : c i = 0 := h1
      rw [h1'] at h; cases h
theorem rightV_0 (t : Trk) : (rightV t).1 = 0 → (rightV t).2 = 0 := by
  unfold rightV
  refine orV_0 (fun _ => rfl) (orV_0 ?_ (orV_0 ?_ ?_))
  · unfold railsV; cases decide ((t.nr : Int) > 16)
    · exact fstW_0 _ _
    · exact fun _ => rfl
  · unfold gatesV; cases !(decide ((1 : Int) ≤ t.nt) && decide ((t.nt : Int) ≤ 16))
    · exact fstW_0 _ _
    · exact fun _ => rfl
  · unfold startV; cases outB t <;> cases nearAny t <;> cases !lapsB t <;> exact fun _ => rfl
theorem right_law (t : Trk) (hs : smallR t) (K : KC) (hK : K (.tup [.int .i64 (rightV t).1, .int .i64 (rightV t).2]) [] []) : run p12 2 14 [.agg (trkC t)] [] K := by
  rw [right_nf]
  refine ⟨trkS_of t, hs, Br.of (fun c => ?_) fun c => ?_⟩
  · have c' := eq_of_beq c
    rw [rightV_0 t c', c'] at hK
    exact hK
  · exact hK
def cTRight : List SV → List (Option SB) → KC → Prop
  | [.agg [.int .i64 a0, .int .i64 a1, .int .i64 a2, .int .i64 a3, .int .i64 a4, .int .i64 a5, .ro nh 1 h, .ro ng 1 g, .ro nk 3 kg, .ro nl 2 l, .ro nr 1 rl, .ro nt 5 gt, .int .i64 sx, .int .i64 sy, .int .u32 hd, .int .i64 lp]], [], K => trkS h g kg l rl gt ∧ smallC nr rl ∧ K (.tup [.int .i64 (rightV (trkOf a0 a1 a2 a3 a4 a5 nh h ng g nk kg nl l nr rl nt gt sx sy hd lp)).1, .int .i64 (rightV (trkOf a0 a1 a2 a3 a4 a5 nh h ng g nk kg nl l nr rl nt gt sx sy hd lp)).2]) [] []
  | _, _, _ => False
theorem tright_sat (xs : List SV) (σ : List (Option SB)) : Sat Tryz.prog 14 xs σ (cTRight xs σ) := by
  intro K hK
  unfold cTRight at hK
  split at hK
  · obtain ⟨h1, h2, hK⟩ := hK
    rw [trkC_of h1]
    exact calls_sat (env := tab.env p12 (fun _ => 0) (fun _ => false)) ⟨tab.htt, p12.ok⟩ tab.mixed (fun n => keepW_weaker n []) tab.hft 2 _ _ _ K (right_law _ (by exact h2) K hK)
  · exact hK.elim
end Go.Proofs.YtbedljhbakdghaaGreatDoor
