import Derived.Test.YtbedljhbakdghaaGreatDoorTl
namespace Go.Proofs.YtbedljhbakdghaaGreatDoor
open Go.Se
set_option maxRecDepth 100000
theorem rate_eq (t : Trk) : rateB t = (!decide (t.rate < 60) && !decide (t.rate > 1024)) := by unfold rateB; grind
theorem laps_eq (t : Trk) : lapsB t = (!decide (t.laps < 1) && !decide (t.laps > 100)) := by unfold lapsB; grind
theorem rz_law (t : Trk) (hs : smallR t) (K : KC) (hK : tupK (rightV t) K) : runL rzR (fun _ => 0) s8 2 31 [.agg (trkC t)] [] K := by
  rw [rz_entry]
  have e1 : lineV t.nl (fun i => px (ptsG t.lx t.ly i)) (fun i => py (ptsG t.lx t.ly i)) = lineV t.nl t.lx t.ly := rfl
  have e2 : anyB (fun i => offP (px (ptsG t.lx t.ly i)) (py (ptsG t.lx t.ly i))) t.nl = lineOff t := rfl
  simp only [e1, e2]
  have hR : rightV t = orV (groundV t, 0) (orV (waysV t) (startV t)) := by
    unfold rightV waysV orV
    cases (groundV t != 0) <;> cases h : (railsV t).1 != 0 <;> simp only [cond_true, cond_false, h]
  rw [hR] at hK
  have hbad : groundV t ≠ 0 → K (.tup [.int .i64 (groundV t), .int .i64 0]) [] [] := fun h => by
    unfold orV at hK
    simp only [bne_iff_ne.2 h, cond_true] at hK
    exact hK
  unfold groundV at hbad
  rw [rate_eq] at hbad
  refine Br.of (fun c => ?_) fun c => Br.of (fun c2 => ?_) fun c2 => ⟨trkS_of t, ?_⟩
  · simp only [c, Bool.not_true, Bool.false_and, Bool.not_false, cond_true] at hbad; exact hbad (by decide)
  · simp only [c2, Bool.not_true, Bool.and_false, Bool.not_false, cond_true] at hbad; exact hbad (by decide)
  simp only [c, c2, Bool.not_false, Bool.and_self, Bool.not_true, cond_false] at hbad
  cases hf : fieldV t == 0
  · simp only [hf, beq_bne hf, Bool.not_false, Br_t, Br_f]
    simp only [beq_bne hf, Bool.not_false, cond_true] at hbad
    exact hbad fun h => by rw [h] at hf; cases hf
  simp only [hf, beq_bne hf, Bool.not_true, Br_t, Br_f]
  simp only [beq_bne hf, Bool.not_true, cond_false] at hbad
  refine ⟨fun _ => rfl, ?_⟩
  cases hl : lineV t.nl t.lx t.ly == 0
  · simp only [beq_bne hl, Bool.not_false, Br_t, Br_f]
    simp only [beq_bne hl, Bool.not_false, cond_true] at hbad
    exact hbad fun h => by rw [h] at hl; cases hl
  simp only [beq_bne hl, Bool.not_true, Br_t, Br_f]
  simp only [beq_bne hl, Bool.not_true, cond_false] at hbad
  refine ⟨fun _ => rfl, ?_⟩
  cases ho : lineOff t
  case true => rw [ho] at hbad; exact hbad (by decide)
  simp only [Br_f]
  have hg : groundV t = 0 := by unfold groundV; rw [rate_eq, c, c2, beq_bne hf, beq_bne hl, ho]; rfl
  clear hbad
  unfold orV at hK
  simp only [hg, bne_self_eq_false, cond_false] at hK
  refine ⟨trkS_of t, hs, Br.of (fun c3 => ?_) fun c3 => ?_⟩
  · simp only [c3, cond_true] at hK; exact hK
  simp only [c3, cond_false] at hK
  have hout : outB t = true → K (.tup [.int .i64 40, .int .i64 0]) [] [] := fun h => by unfold startV at hK; rw [h] at hK; exact hK
  have hin : outB t = false → tupK (bif nearAny t then (43, 0) else bif !lapsB t then (40, 0) else (0, 0)) K := fun h => by unfold startV at hK; rw [h] at hK; exact hK
  unfold outB at hout hin
  refine Br.of (fun d1 => hout (by rw [d1]; rfl)) fun d1 => Br.of (fun d3 => hout (by rw [d3, Bool.true_or, Bool.or_true, Bool.or_true])) fun d3 => Br.of (fun d2 => hout (by rw [d2, Bool.true_or, Bool.or_true])) fun d2 => Br.of (fun d4 => hout (by rw [d4, Bool.or_true, Bool.or_true, Bool.or_true])) fun d4 => ⟨trkS_of t, hs, ?_⟩
  have hK := hin (by rw [d1, d2, d3, d4]; rfl)
  have hlen : (barL t).length ≤ 2000 := by
    have := allBars_len hs.2 t.nr (Nat.le_refl _)
    have h2 : t.nr * 100 ≤ 20 * 100 := Nat.mul_le_mul_right _ hs.1
    unfold barL
    omega
  generalize hLL : barL t = L at hlen ⊢
  have hna : nearAny t = anyB (fun i => nearBar t (L.getD i bar0)) L.length := by unfold nearAny; rw [hLL]
  rw [hna] at hK
  refine scan_loop (fun i : Nat => rzS t L 0 0 i) L.length (fun i => nearBar t (L.getD i bar0)) (fun i => afterE rzE (keepW rzR 0) rzF rzP 0 K .ret (rzS t L 43 0 i)) (afterE rzE (keepW rzR 0) rzF rzP 0 K (.exit 0) (rzS t L 0 0 L.length)) (fun i hi X h1 h2 => ?_) (fun X h => ?_) (fun i hi h _ => ?_) (fun h => ?_)
  · rw [rz_round, wi64_succ hi (by omega)]
    simp only [Int.toNat_natCast]
    unfold nearBar at h1 h2
    exact Br.of (fun _ => Br.of (fun _ => Br.of (fun _ => Br.of (fun c => Br.of (fun d => h1 (by rw [show decide (0 < beyV _ _ _ _ _ _) = true from c, d]; rfl)) fun d => h2 (by rw [d, Bool.and_false])) fun c => h2 (by rw [show decide (0 < beyV _ _ _ _ _ _) = false from c]; rfl)) fun c => in_f hi c) fun c => in_f hi c) fun c => lt_f hi c
  · rw [rz_round]
    exact Br.of (fun c => lt_t c) fun _ => h
  · show afterE _ _ _ _ _ _ _ _
    rw [rz_ret]
    rw [show anyB (fun i => nearBar t (L.getD i bar0)) L.length = true from anyB_iff.2 ⟨i, hi, h⟩] at hK
    exact hK
  · rw [rz_after]
    rw [show anyB (fun i => nearBar t (L.getD i bar0)) L.length = false from anyB_false.2 h, laps_eq] at hK
    refine Br.of (fun c => ?_) fun c => Br.of (fun c2 => ?_) fun c2 => ?_
    · rw [c] at hK; exact hK
    · rw [c, c2] at hK; exact hK
    · rw [c, c2] at hK; exact hK
theorem rright_sat (xs : List SV) (σ : List (Option SB)) : Sat Tryz.prog 31 xs σ (cTup rightV xs σ) :=
  cTup_sat (fun t hs _ _ K hK => calls_sat (env := tab.env s8 (fun _ => 0) (fun _ => false)) ⟨tab.htt, s8.ok⟩ tab.mixed (fun n => keepW_weaker n rzR) tab.hft 2 _ _ _ K (rz_law t hs K hK)) xs σ
def few12B (t : Trk) : Bool := decide ((t.nh : Int) ≤ 1200) && (decide ((t.ng : Int) ≤ 1000) && decide ((t.nk : Int) ≤ 20))
theorem few12_nf (t : Trk) (K : KC) : run q5 2 15 [.agg (trkC t)] [] K =
  (Br (decide ((↑t.nh : Int) ≤ 1200)) (Br (decide ((↑t.ng : Int) ≤ 1000)) (K (SV.bool (decide ((↑t.nk : Int) ≤ 20))) [] []) (K (SV.bool false) [] [])) (K (SV.bool false) [] [])) := by kernel_rfl
theorem few12_ok (t : Trk) : CallOK Tryz.prog 15 [.agg (trkC t)] [] (.bool (few12B t)) [] [] :=
  run_ok q5 2 fun _ _ K hK => by
    rw [few12_nf]; simp only [Br_bool]; refine finB hK ?_; unfold few12B
    cases decide ((t.nh : Int) ≤ 1200) <;> cases decide ((t.ng : Int) ≤ 1000) <;> rfl
def cFew12 : List SV → List (Option SB) → KC → Prop
  | [.agg [.int .i64 a0, .int .i64 a1, .int .i64 a2, .int .i64 a3, .int .i64 a4, .int .i64 a5, .ro nh 1 h, .ro ng 1 g, .ro nk 3 kg, .ro nl 2 l, .ro nr 1 rl, .ro nt 5 gt, .int .i64 sx, .int .i64 sy, .int .u32 hd, .int .i64 lp]], [], K => trkS h g kg l rl gt ∧ K (.bool (few12B (trkOf a0 a1 a2 a3 a4 a5 nh h ng g nk kg nl l nr rl nt gt sx sy hd lp))) [] []
  | _, _, _ => False
theorem few12_sat (xs : List SV) (σ : List (Option SB)) : Sat Tryz.prog 15 xs σ (cFew12 xs σ) := by
  intro K hK
  unfold cFew12 at hK
  split at hK
  · refine ⟨_, _, _, hK.2, ?_⟩
    rw [trkC_of hK.1]; exact few12_ok _
  · exact hK.elim
noncomputable def u0 : Know Tryz.prog := (q5).add 15 cFew12 few12_sat
def fwR : List (Nat × Keep) := [(0, ⟨[1, 2, 3], [0], [1, 2, 3], 1, []⟩)]
def fwS (t : Trk) (i : Int) : St := ⟨[(1, .ptr 0 0), (2, .bool false), (3, .int .i64 i)], [(0, some (.cells 34 (trkC t)))], 1, [1, 2, 3], 39⟩
noncomputable abbrev fwE : Env := envL fwR (fun _ => 0) u0 1
noncomputable abbrev fwF : Func := Tryz.f7
theorem fw_entry (t : Trk) (K : KC) : runL fwR (fun _ => 0) u0 2 7 [.agg (trkC t)] [] K =
  ((trkS (oneG t.h) (oneG t.g) (kindG t) (ptsG t.lx t.ly) (railG t) (gateG t)) ∧ (Br (!few12B t) (K (SV.bool false) [] []) (Br (decide ((↑t.nl : Int) > 100)) (K (SV.bool false) [] []) (Br (decide ((↑t.nr : Int) > 20)) (K (SV.bool false) [] []) (Br (decide ((↑t.nt : Int) > 20)) (K (SV.bool false) [] []) (∃ q_, loopE fwE (keepW fwR 0) fwF [1, 1, 0, 1, 0] 0 0 K q_ { tmps := [(1, SV.ptr 0 0), (2, SV.bool false), (3, SV.int .i64 0)], store := [(0, some (SB.cells 34 (trkC t)))], nxt := 1, dirty := [1, 2, 3], nt := 39 })))))) := by kernel_rfl
theorem fw_round (t : Trk) (i : Nat) (K : Ex → St → Prop) : roundE fwE (keepW fwR 0) fwF [1, 1, 0, 1, 0] 0 K (fwS t i) =
  (Br (decide ((↑i : Int) < (↑t.nr : Int))) (Br (decide (0 ≤ (↑i : Int)) && decide ((↑i : Int) < (↑t.nr : Int))) (Br (decide ((↑(t.rn (↑i : Int).toNat) : Int) > 100)) (K Ex.ret { tmps := [(1, SV.ptr 0 0), (2, SV.bool false), (3, SV.int .i64 (↑i : Int))], store := [(0, some (SB.cells 34 (trkC t)))], nxt := 1, dirty := [1, 2, 3], nt := 39 }) (K Ex.normal { tmps := [(1, SV.ptr 0 0), (2, SV.bool false), (3, SV.int .i64 (IntKind.i64.wrap ((↑i : Int) + 1)))], store := [(0, some (SB.cells 34 (trkC t)))], nxt := 1, dirty := [1, 2, 3], nt := 39 })) (False)) (K (Ex.exit 0) { tmps := [(1, SV.ptr 0 0), (2, SV.bool false), (3, SV.int .i64 (↑i : Int))], store := [(0, some (SB.cells 34 (trkC t)))], nxt := 1, dirty := [1, 2, 3], nt := 39 })) := by kernel_rfl
theorem fw_ret (t : Trk) (i : Int) (K : KC) : afterE fwE (keepW fwR 0) fwF [1, 1, 0, 1, 0] 0 K .ret (fwS t i) =
  (K (SV.bool false) [] []) := by kernel_rfl
theorem fw_after (t : Trk) (i : Int) (K : KC) : afterE fwE (keepW fwR 0) fwF [1, 1, 0, 1, 0] 0 K (.exit 0) (fwS t i) =
  (K (SV.bool true) [] []) := by kernel_rfl
def fewB (t : Trk) : Bool := few12B t && (!decide ((t.nl : Int) > 100) && (!decide ((t.nr : Int) > 20) && (!decide ((t.nt : Int) > 20) && !anyB (fun i => decide ((t.rn i : Int) > 100)) t.nr)))
theorem fw_law (t : Trk) (hn : t.nr < 9223372036854775808) (K : KC) (hK : K (.bool (fewB t)) [] []) : runL fwR (fun _ => 0) u0 2 7 [.agg (trkC t)] [] K := by
  rw [fw_entry]
  unfold fewB at hK
  refine ⟨trkS_of t, Br.of (fun c => ?_) fun c => ?_⟩
  · rw [Bool.not_eq_true'] at c; rw [c] at hK; exact hK
  rw [Bool.not_eq_false'] at c; rw [c] at hK
  refine Br.of (fun c2 => ?_) fun c2 => Br.of (fun c3 => ?_) fun c3 => Br.of (fun c4 => ?_) fun c4 => ?_
  · rw [c2] at hK; exact hK
  · rw [c2, c3] at hK; exact hK
  · rw [c2, c3, c4] at hK; exact hK
  rw [c2, c3, c4] at hK
  simp only [Bool.not_false, Bool.true_and] at hK
  refine scan_loop (fun i : Nat => fwS t i) t.nr (fun i => decide ((t.rn i : Int) > 100)) (fun i => afterE fwE (keepW fwR 0) fwF [1, 1, 0, 1, 0] 0 K .ret (fwS t i)) (afterE fwE (keepW fwR 0) fwF [1, 1, 0, 1, 0] 0 K (.exit 0) (fwS t t.nr)) (fun i hi X h1 h2 => ?_) (fun X h => ?_) (fun i hi h _ => ?_) (fun h => ?_)
  · rw [fw_round, wi64_succ hi hn]
    simp only [Int.toNat_natCast]
    exact Br.of (fun _ => Br.of (fun _ => Br.of (fun c => h1 c) fun c => h2 c) fun c => in_f hi c) fun c => lt_f hi c
  · rw [fw_round]
    exact Br.of (fun c => lt_t c) fun _ => h
  · show afterE _ _ _ _ _ _ _ _
    rw [fw_ret]
    rw [show anyB (fun i => decide ((t.rn i : Int) > 100)) t.nr = true from anyB_iff.2 ⟨i, hi, h⟩] at hK
    exact hK
  · rw [fw_after]
    rw [show anyB (fun i => decide ((t.rn i : Int) > 100)) t.nr = false from anyB_false.2 h] at hK
    exact hK
def cFew14 : List SV → List (Option SB) → KC → Prop
  | [.agg [.int .i64 a0, .int .i64 a1, .int .i64 a2, .int .i64 a3, .int .i64 a4, .int .i64 a5, .ro nh 1 h, .ro ng 1 g, .ro nk 3 kg, .ro nl 2 l, .ro nr 1 rl, .ro nt 5 gt, .int .i64 sx, .int .i64 sy, .int .u32 hd, .int .i64 lp]], [], K => trkS h g kg l rl gt ∧ K (.bool (fewB (trkOf a0 a1 a2 a3 a4 a5 nh h ng g nk kg nl l nr rl nt gt sx sy hd lp))) [] []
  | _, _, _ => False
theorem few_sat (xs : List SV) (σ : List (Option SB)) : Sat Tryz.prog 7 xs σ (cFew14 xs σ) := by
  refine sat_of_ok (fun K hK => ?_) fun hx _ K hK => ?_ <;> unfold cFew14 at hK <;> split at hK
  · exact ⟨_, _, _, hK.2⟩
  · exact hK.elim
  · obtain ⟨⟨_, _, _, _, _, _, _, _, _, _, hr, _⟩, _⟩ := hx
    rw [trkC_of hK.1]
    exact calls_sat (env := tab.env u0 (fun _ => 0) (fun _ => false)) ⟨tab.htt, u0.ok⟩ tab.mixed (fun n => keepW_weaker n fwR) tab.hft 2 _ _ _ K (fw_law _ hr.1 K hK.2)
  · exact hK.elim
noncomputable def u1 : Know Tryz.prog := (((s8).add 7 cFew14 few_sat).add 14 cTRight tright_sat).add 31 (cTup rightV) rright_sat
/-- The track that comes in. -/
def trkV (V : Val) : Trk where
  rate := (V.sub 0).int []
  cell := (V.sub 1).int []
  cols := (V.sub 2).int []
  rows := (V.sub 3).int []
  cx := ((V.sub 4).sub 0).int []
  cy := ((V.sub 4).sub 1).int []
  nh := (V.sub 5).len []
  h := fun i => ((V.sub 5).sub i).int []
  ng := (V.sub 6).len []
  g := fun i => ((V.sub 6).sub i).int []
  nk := (V.sub 7).len []
  kg := fun i => (((V.sub 7).sub i).sub 0).int []
  kd := fun i => (((V.sub 7).sub i).sub 1).int []
  ko := fun i => (((V.sub 7).sub i).sub 2).bool []
  nl := (V.sub 8).len []
  lx := fun i => (((V.sub 8).sub i).sub 0).int []
  ly := fun i => (((V.sub 8).sub i).sub 1).int []
  nr := (V.sub 9).len []
  rn := fun i => ((V.sub 9).sub i).len []
  rx := fun i k => ((((V.sub 9).sub i).sub k).sub 0).int []
  ry := fun i k => ((((V.sub 9).sub i).sub k).sub 1).int []
  nt := (V.sub 10).len []
  ax := fun i => ((((V.sub 10).sub i).sub 0).sub 0).int []
  ay := fun i => ((((V.sub 10).sub i).sub 0).sub 1).int []
  bx := fun i => ((((V.sub 10).sub i).sub 1).sub 0).int []
  sb := fun i => ((((V.sub 10).sub i).sub 1).sub 1).int []
  sp := fun i => (((V.sub 10).sub i).sub 2).bool []
  sx := ((V.sub 11).sub 0).int []
  sy := ((V.sub 11).sub 1).int []
  head := (V.sub 12).int []
  laps := (V.sub 13).int []
end Go.Proofs.YtbedljhbakdghaaGreatDoor
