import Derived.Test.YtbedljhbakdghaaGreatDoorWd
namespace Go.Proofs.YtbedljhbakdghaaGreatDoor
open Go.Se
set_option maxRecDepth 100000
def encKt (t : Trk) (K : KC) : Prop := (encBy t).length ≤ 1000000000 ∧ Br ((rightV t).1 != 0) (K (.tup [.nils, .int .i64 (rightV t).1]) [] []) (K (.tup [.ro (encBy t).length 1 (bG (encBy t)), .int .i64 0]) [] [])
def cEnc : List SV → List (Option SB) → KC → Prop
  | [.agg [.int .i64 a0, .int .i64 a1, .int .i64 a2, .int .i64 a3, .int .i64 a4, .int .i64 a5, .ro nh 1 h, .ro ng 1 g, .ro nk 3 kg, .ro nl 2 l, .ro nr 1 rl, .ro nt 5 gt, .int .i64 sx, .int .i64 sy, .int .u32 hd, .int .i64 lp]], [], K => trkS h g kg l rl gt ∧ smallC nr rl ∧ encKt (trkOf a0 a1 a2 a3 a4 a5 nh h ng g nk kg nl l nr rl nt gt sx sy hd lp) K
  | _, _, _ => False
theorem enc_run {t : Trk} (hs : smallR t) (hl : (encBy t).length ≤ 1000000000) {v : SV} {σ : List (Option SB)}
    (h : ∀ K : KC, K v σ [] → runE K t) : CallOK Tryz.prog 8 [.agg (trkC t)] [] v σ [] := by
  obtain ⟨v', σ', d', ⟨rfl, rfl, rfl⟩, hc⟩ := calls_sat (env := tab.env w6 (fun _ => 0) encCut) ⟨tab.htt, w6.ok⟩ tab.mixed (fun n => keepP_weaker n encR) tab.hft 4 _ _ _ (fun v' σ' d' => v' = v ∧ σ' = σ ∧ d' = []) (h _ ⟨rfl, rfl, rfl⟩)
  exact hc
theorem enc_sat1 (t : Trk) (hs : smallR t) (K : KC) (hK : encKt t K) : ∃ v σ' d, K v σ' d ∧ CallOK Tryz.prog 8 [.agg (trkC t)] [] v σ' d := by
  obtain ⟨hl, hK⟩ := hK
  rcases Br.elim hK with ⟨c, hK⟩ | ⟨c, hK⟩
  · exact ⟨_, _, _, hK, enc_run hs hl fun K hK => enc_law t hs hl K (by rw [c]; exact hK)⟩
  · exact ⟨_, _, _, hK, callOK_frz2 rfl (fun i hi => ⟨rfl, rfl⟩) (enc_run hs hl fun K hK => enc_law t hs hl K (by rw [c]; exact hK))⟩
theorem enc_sat (xs : List SV) (σ : List (Option SB)) : Sat Tryz.prog 8 xs σ (cEnc xs σ) := by
  intro K hK
  unfold cEnc at hK
  split at hK
  · obtain ⟨h1, h2, hK⟩ := hK
    rw [trkC_of h1]
    exact enc_sat1 _ (by exact h2) K hK
  · exact hK.elim
/-! ### The reference's words. -/
theorem rnum_nf (x : Int) (K : KC) : runU 10 w6 2 37 [.int .i64 x] [] K = K (.own 0 0 1 8) [some (.lst 5 (tdB 8 (IntKind.u64.wrap x)))] [] := by kernel_rfl
theorem rcount_nf (x : Int) (K : KC) : runU 10 w6 2 34 [.int .i64 x] [] K = K (.arr 0 0 2 2) [some (.cells 5 (tdB 2 (IntKind.u64.wrap x)))] [] := by kernel_rfl
theorem rflag_nf (x : Bool) (K : KC) : runU 10 w6 2 36 [.bool x] [] K =
  (Br (x) (K (SV.arr 0 0 1 1) [some (SB.cells 5 [SV.int .u8 1])] []) (K (SV.arr 0 0 1 1) [some (SB.cells 5 [SV.int .u8 0])] [])) := by kernel_rfl
theorem rmark_nf (K : KC) : runU 10 w6 2 82 [.str ⟨#[67, 72, 84, 82]⟩] [] K =
  (K (SV.own 0 0 1 4) [some (SB.lst 5 [SV.int .u8 67, SV.int .u8 72, SV.int .u8 84, SV.int .u8 82])] []) := by kernel_rfl
def cRNum : List SV → List (Option SB) → KC → Prop := cRB 5 (encI 8)
def cRCount : List SV → List (Option SB) → KC → Prop := cRB 5 (encI 2)
def cRFlag : List SV → List (Option SB) → KC → Prop := cRB 5 encB
theorem rnum_sat (xs : List SV) (σ : List (Option SB)) : Sat Tryz.prog 37 xs σ (cRNum xs σ) :=
  cRB_sat (fun xs M henc => by
    unfold encI at henc
    split at henc
    · rename_i x
      cases henc
      rw [le_len]
      refine callOK_out (fun ρ T w b h => lst_row (tdB_le 8 (wd x) (wd_lo x) (wd_hi x)) (by rw [le_len]) h) (runU_ok 10 w6 2 fun _ _ K hK => ?_)
      rw [rnum_nf]; exact hK
    · cases henc) xs σ
theorem rcount_sat (xs : List SV) (σ : List (Option SB)) : Sat Tryz.prog 34 xs σ (cRCount xs σ) :=
  cRB_sat (fun xs M henc => by
    unfold encI at henc
    split at henc
    · rename_i x
      cases henc
      rw [le_len]
      refine callOK_arr (by decide) (by rw [le_len]) (tdB_le 2 (wd x) (wd_lo x) (wd_hi x)) (runU_ok 10 w6 2 fun _ _ K hK => ?_)
      rw [rcount_nf]; exact hK
    · cases henc) xs σ
theorem rflag_sat (xs : List SV) (σ : List (Option SB)) : Sat Tryz.prog 36 xs σ (cRFlag xs σ) :=
  cRB_sat (fun xs M henc => by
    unfold encB at henc
    split at henc
    · rename_i b
      cases henc
      refine callOK_arr (n := 1) (cs := [.int .u8 (bif b then 1 else 0)]) (by decide) rfl rfl (runU_ok 10 w6 2 fun _ _ K hK => ?_)
      rw [rflag_nf]
      refine Br.of (fun hb => ?_) fun hb => ?_
      · rw [hb] at hK; exact hK
      · rw [hb] at hK; exact hK
    · cases henc) xs σ
def encMk : List SV → Option (List Int)
  | [.str s] => bif s.data == #[67, 72, 84, 82] then some markB else none
  | _ => none
theorem rmark_sat (xs : List SV) (σ : List (Option SB)) : Sat Tryz.prog 82 xs σ (cRB 5 encMk xs σ) :=
  cRB_sat (fun xs M henc => by
    unfold encMk at henc
    split at henc
    · rename_i s
      obtain ⟨da⟩ := s
      cases he : da == #[67, 72, 84, 82] with
      | false => simp only [he, cond_false] at henc; cases henc
      | true =>
        simp only [he, cond_true] at henc
        cases henc
        obtain rfl := eq_of_beq he
        refine callOK_out (fun ρ T w b h => lst_row (L := markB) (cs := encM) rfl rfl h) (runU_ok 10 w6 2 fun _ _ K hK => ?_)
        rw [rmark_nf]; exact hK
    · cases henc) xs σ
def cRMark : List SV → List (Option SB) → KC → Prop := cRB 5 encMk
noncomputable def w7 : Know Tryz.prog := (((((w6).add 37 cRNum rnum_sat).add 34 cRCount rcount_sat).add 36 cRFlag rflag_sat).add 82 cRMark rmark_sat).add 8 cEnc enc_sat
theorem rplace_nf (x y : Int) (K : KC) : run w7 2 35 [.agg [.int .i64 x, .int .i64 y]] [] K =
  ((∀ (i : Nat), i < (le 8 (wd y)).length → (bG (le 8 (wd y)) i).length = 1 ∧ (bG (le 8 (wd y)) i).all oneCell = true) ∧ (K (SV.own 0 0 1 16) [some (SB.row 5 1 16 (catR 8 (bG (le 8 (wd x))) (bG (le 8 (wd y)))))] [])) := by kernel_rfl
def cRPlace : List SV → List (Option SB) → KC → Prop := cRB 5 encP
theorem rplace_sat (xs : List SV) (σ : List (Option SB)) : Sat Tryz.prog 35 xs σ (cRPlace xs σ) :=
  cRB_sat (fun xs M henc => by
    unfold encP at henc
    split at henc
    · rename_i x y
      cases henc
      refine run_ok w7 2 fun _ _ K hK => ?_
      rw [rplace_nf]
      refine ⟨fun _ _ => ⟨rfl, rfl⟩, ?_⟩
      rw [catR_bG (by rw [le_len]) rfl]
      have e : (ptB x y).length = 16 := by unfold ptB; simp [le_len]
      rw [e] at hK
      exact hK
    · cases henc) xs σ
noncomputable def w8 : Know Tryz.prog := (w7).add 35 cRPlace rplace_sat
end Go.Proofs.YtbedljhbakdghaaGreatDoor

namespace Go.Proofs.YtbedljhbakdghaaGreatDoor
open Go.Se
set_option maxRecDepth 100000
def rplR : List (Nat × Keep) := [(0, ⟨[0, 3, 4], [1], [1, 2, 3, 4], 2, [(3, 1)]⟩)]
def rplS (n : Nat) (x y : Nat → Int) (i : Int) (L : List Int) : St := ⟨[(0, .ro n 2 (ptsG x y)), (3, .own 1 0 1 L.length), (4, .int .i64 i)], [(1, some (.row 5 1 L.length (bG L)))], 2, [1, 2, 3, 4], 22⟩
noncomputable abbrev rplE : Env := envL rplR (fun _ => 0) w8 1
noncomputable abbrev rplF : Func := Tryz.f33
abbrev rplP : List Nat := [1, 1, 0, 1, 0]
theorem rpl_entry (n : Nat) (x y : Nat → Int) (K : KC) : runL rplR (fun _ => 0) w8 2 33 [.ro n 2 (ptsG x y)] [] K =
  (∃ q_, loopE rplE (keepW rplR 0) rplF rplP 0 0 K q_ { tmps := [(0, SV.ro n 2 (ptsG x y)), (3, SV.own 1 0 1 2), (4, SV.int .i64 0)], store := [(1, some (SB.row 5 1 2 (bG (le 2 (wd (↑n : Int))))))], nxt := 2, dirty := [1, 2, 3, 4], nt := 22 }) := by kernel_rfl
theorem rpl_round (n : Nat) (x y : Nat → Int) (i : Nat) (L : List Int) (K : Ex → St → Prop) : roundE rplE (keepW rplR 0) rplF rplP 0 K (rplS n x y i L) =
  (Br (decide ((↑i : Int) < (↑n : Int))) (Br (decide (0 ≤ (↑i : Int)) && decide ((↑i : Int) < (↑n : Int))) ((∀ (i_1 : Nat), i_1 < (ptB (x (↑i : Int).toNat) (y (↑i : Int).toNat)).length → (bG (ptB (x (↑i : Int).toNat) (y (↑i : Int).toNat)) i_1).length = 1 ∧ (bG (ptB (x (↑i : Int).toNat) (y (↑i : Int).toNat)) i_1).all oneCell = true) ∧ (Br (decide ((ptB (x (↑i : Int).toNat) (y (↑i : Int).toNat)).length ≤ (ptB (x (↑i : Int).toNat) (y (↑i : Int).toNat)).length) && decide (L.length = L.length) && (decide ((L.length + (ptB (x (↑i : Int).toNat) (y (↑i : Int).toNat)).length) * 1 ≤ 1099511627776) && decide (L.length + (ptB (x (↑i : Int).toNat) (y (↑i : Int).toNat)).length < 9223372036854775808))) (K Ex.normal { tmps := [(0, SV.ro n 2 (ptsG x y)), (3, SV.own 1 0 1 (L.length + (ptB (x (↑i : Int).toNat) (y (↑i : Int).toNat)).length)), (4, SV.int .i64 (IntKind.i64.wrap ((↑i : Int) + 1)))], store := [(1, some (SB.row 5 1 (L.length + (ptB (x (↑i : Int).toNat) (y (↑i : Int).toNat)).length) (catR L.length (bG L) (bG (ptB (x (↑i : Int).toNat) (y (↑i : Int).toNat))))))], nxt := 2, dirty := [1, 2, 3, 4], nt := 22 }) (False))) (False)) (K (Ex.exit 0) { tmps := [(0, SV.ro n 2 (ptsG x y)), (3, SV.own 1 0 1 L.length), (4, SV.int .i64 (↑i : Int))], store := [(1, some (SB.row 5 1 L.length (bG L)))], nxt := 2, dirty := [1, 2, 3, 4], nt := 22 })) := by kernel_rfl
theorem rpl_after (n : Nat) (x y : Nat → Int) (i : Int) (L : List Int) (K : KC) : afterE rplE (keepW rplR 0) rplF rplP 0 K (.exit 0) (rplS n x y i L) =
  (K (SV.own 0 0 1 L.length) [some (SB.row 5 1 L.length (bG L))] []) := by kernel_rfl
theorem rpl_law (n : Nat) (x y : Nat → Int) (hn : n < 9223372036854775808) (hl : (railB n x y).length ≤ 1000000000) (K : KC) (hK : K (.own 0 0 1 (railB n x y).length) [some (.row 5 1 (railB n x y).length (bG (railB n x y)))] []) :
    runL rplR (fun _ => 0) w8 2 33 [.ro n 2 (ptsG x y)] [] K := by
  rw [rpl_entry]
  unfold railB at hl hK
  refine ⟨n + 1, loop_up (fun i : Nat => rplS n x y i (le 2 (wd n) ++ cat (fun k => ptB (x k) (y k)) i)) n (fun _ => True) (fun i hi _ X hX => ?_) (fun _ X => ?_) trivial⟩
  · rw [rpl_round, wi64_succ hi hn]
    simp only [Int.toNat_natCast]
    have hm := cat_mono (f := fun k => ptB (x k) (y k)) (show i + 1 ≤ n from hi)
    simp only [cat, List.length_append] at hm hl
    refine Br.of (fun _ => Br.of (fun _ => ⟨fun _ _ => ⟨rfl, rfl⟩, Br.of (fun _ => ?_) fun c => ?_⟩) fun c => in_f hi c) fun c => lt_f hi c
    · have := hX trivial
      rw [catR_bG rfl rfl, ← List.length_append]
      simp only [cat, ← List.append_assoc] at this
      exact this
    · simp only [Nat.le_refl, decide_true, Bool.true_and, Nat.mul_one, Bool.and_eq_false_iff, decide_eq_false_iff_not, List.length_append] at c
      omega
  · rw [rpl_round]
    refine Br.of (fun c => lt_t c) fun _ => ?_
    show afterE rplE (keepW rplR 0) rplF rplP 0 K (.exit 0) (rplS n x y n (le 2 (wd n) ++ cat (fun k => ptB (x k) (y k)) n))
    rw [rpl_after]
    exact hK
def cRPls : List SV → List (Option SB) → KC → Prop
  | [.ro n 2 g], [], K => pts g ∧ (railB n (fun i => px (g i)) (fun i => py (g i))).length ≤ 1000000000 ∧ K (.own 0 0 1 (railB n (fun i => px (g i)) (fun i => py (g i))).length) [some (.row 5 1 (railB n (fun i => px (g i)) (fun i => py (g i))).length (bG (railB n (fun i => px (g i)) (fun i => py (g i)))))] []
  | _, _, _ => False
theorem rpls_sat (xs : List SV) (σ : List (Option SB)) : Sat Tryz.prog 33 xs σ (cRPls xs σ) := by
  intro K hK
  unfold cRPls at hK
  split at hK
  · obtain ⟨h1, h2, hK⟩ := hK
    refine ⟨_, _, _, hK, ?_⟩
    rw [pts_eq h1]
    exact runL_ok rplR (fun _ => 0) w8 2 (fun p hp => by cases hp) fun h3 _ K hK => rpl_law _ _ _ h3.1.1 h2 K (hK _ fun _ h => h)
  · exact hK.elim
noncomputable def w9 : Know Tryz.prog := (w8).add 33 cRPls rpls_sat
end Go.Proofs.YtbedljhbakdghaaGreatDoor

namespace Go.Proofs.YtbedljhbakdghaaGreatDoor
open Go.Se
set_option maxRecDepth 100000
def rgrR : List (Nat × Keep) := [(0, ⟨[1, 3, 4], [0, 1], [0, 1, 2, 3, 4, 5, 6, 7, 8, 9, 10, 11, 12], 2, [(3, 1)]⟩), (2, ⟨[1, 3, 5], [0, 1], [0, 1, 2, 3, 4, 5, 6, 7, 8, 9, 10, 11, 12], 2, [(3, 1)]⟩), (4, ⟨[1, 3, 6], [0, 1], [0, 1, 2, 3, 4, 5, 6, 7, 8, 9, 10, 11, 12], 2, [(3, 1)]⟩)]
def rgrS (t : Trk) (v : Nat) (i : Int) (L : List Int) : St := ⟨[(1, .ptr 0 0), (3, .own 1 0 1 L.length), (v, .int .i64 i)], [(0, some (.cells 34 (trkC t))), (1, some (.row 5 1 L.length (bG L)))], 2, [0, 1, 2, 3, 4, 5, 6, 7, 8, 9, 10, 11, 12], 103⟩
noncomputable abbrev rgrE : Env := envL rgrR (fun _ => 0) w9 1
noncomputable abbrev rgrF : Func := Tryz.f32
abbrev rgrP0 : List Nat := [1, 1, 1, 1, 1, 1, 0, 1, 0]
abbrev rgrP2 : List Nat := [1, 1, 1, 1, 1, 1, 1, 0, 1, 0]
abbrev rgrP4 : List Nat := [1, 1, 1, 1, 1, 1, 1, 1, 1, 0, 1, 0]
theorem rgr_r0 (t : Trk) (i : Nat) (L : List Int) (K : Ex → St → Prop) : roundE rgrE (keepW rgrR 0) rgrF rgrP0 0 K (rgrS t 4 i L) =
  (Br (decide ((↑i : Int) < (↑t.nh : Int))) (Br (decide (0 ≤ (↑i : Int)) && decide ((↑i : Int) < (↑t.nh : Int))) ((∀ (i_1 : Nat), i_1 < (le 8 (wd (t.h (↑i : Int).toNat))).length → (bG (le 8 (wd (t.h (↑i : Int).toNat))) i_1).length = 1 ∧ (bG (le 8 (wd (t.h (↑i : Int).toNat))) i_1).all oneCell = true) ∧ (Br (decide ((le 8 (wd (t.h (↑i : Int).toNat))).length ≤ (le 8 (wd (t.h (↑i : Int).toNat))).length) && decide (L.length = L.length) && (decide ((L.length + (le 8 (wd (t.h (↑i : Int).toNat))).length) * 1 ≤ 1099511627776) && decide (L.length + (le 8 (wd (t.h (↑i : Int).toNat))).length < 9223372036854775808))) (K Ex.normal { tmps := [(1, SV.ptr 0 0), (3, SV.own 1 0 1 (L.length + (le 8 (wd (t.h (↑i : Int).toNat))).length)), (4, SV.int .i64 (IntKind.i64.wrap ((↑i : Int) + 1)))], store := [(0, some (SB.cells 34 (trkC t))), (1, some (SB.row 5 1 (L.length + (le 8 (wd (t.h (↑i : Int).toNat))).length) (catR L.length (bG L) (bG (le 8 (wd (t.h (↑i : Int).toNat)))))))], nxt := 2, dirty := [0, 1, 2, 3, 4, 5, 6, 7, 8, 9, 10, 11, 12], nt := 103 }) (False))) (False)) (K (Ex.exit 0) { tmps := [(1, SV.ptr 0 0), (3, SV.own 1 0 1 L.length), (4, SV.int .i64 (↑i : Int))], store := [(0, some (SB.cells 34 (trkC t))), (1, some (SB.row 5 1 L.length (bG L)))], nxt := 2, dirty := [0, 1, 2, 3, 4, 5, 6, 7, 8, 9, 10, 11, 12], nt := 103 })) := by kernel_rfl
theorem rgr_r2 (t : Trk) (i : Nat) (L : List Int) (K : Ex → St → Prop) : roundE rgrE (keepW rgrR 0) rgrF rgrP2 2 K (rgrS t 5 i L) =
  (Br (decide ((↑i : Int) < (↑t.ng : Int))) (Br (decide (0 ≤ (↑i : Int)) && decide ((↑i : Int) < (↑t.ng : Int))) ((∀ (i_1 : Nat), i_1 < (le 2 (wd (t.g (↑i : Int).toNat))).length → (bG (le 2 (wd (t.g (↑i : Int).toNat))) i_1).length = 1 ∧ (bG (le 2 (wd (t.g (↑i : Int).toNat))) i_1).all oneCell = true) ∧ (Br (decide ((le 2 (wd (t.g (↑i : Int).toNat))).length ≤ (le 2 (wd (t.g (↑i : Int).toNat))).length) && decide (L.length = L.length) && (decide ((L.length + (le 2 (wd (t.g (↑i : Int).toNat))).length) * 1 ≤ 1099511627776) && decide (L.length + (le 2 (wd (t.g (↑i : Int).toNat))).length < 9223372036854775808))) (K Ex.normal { tmps := [(1, SV.ptr 0 0), (3, SV.own 1 0 1 (L.length + (le 2 (wd (t.g (↑i : Int).toNat))).length)), (5, SV.int .i64 (IntKind.i64.wrap ((↑i : Int) + 1)))], store := [(0, some (SB.cells 34 (trkC t))), (1, some (SB.row 5 1 (L.length + (le 2 (wd (t.g (↑i : Int).toNat))).length) (catR L.length (bG L) (bG (le 2 (wd (t.g (↑i : Int).toNat)))))))], nxt := 2, dirty := [0, 1, 2, 3, 4, 5, 6, 7, 8, 9, 10, 11, 12], nt := 103 }) (False))) (False)) (K (Ex.exit 2) { tmps := [(1, SV.ptr 0 0), (3, SV.own 1 0 1 L.length), (5, SV.int .i64 (↑i : Int))], store := [(0, some (SB.cells 34 (trkC t))), (1, some (SB.row 5 1 L.length (bG L)))], nxt := 2, dirty := [0, 1, 2, 3, 4, 5, 6, 7, 8, 9, 10, 11, 12], nt := 103 })) := by kernel_rfl
theorem rgr_r4 (t : Trk) (i : Nat) (L : List Int) (K : Ex → St → Prop) : roundE rgrE (keepW rgrR 0) rgrF rgrP4 4 K (rgrS t 6 i L) =
  (Br (decide ((↑i : Int) < (↑t.nk : Int))) (Br (decide (0 ≤ (↑i : Int)) && decide ((↑i : Int) < (↑t.nk : Int))) ((∀ (i_1 : Nat), i_1 < (le 8 (wd (t.kg (↑i : Int).toNat))).length → (bG (le 8 (wd (t.kg (↑i : Int).toNat))) i_1).length = 1 ∧ (bG (le 8 (wd (t.kg (↑i : Int).toNat))) i_1).all oneCell = true) ∧ (Br (decide ((le 8 (wd (t.kg (↑i : Int).toNat))).length ≤ (le 8 (wd (t.kg (↑i : Int).toNat))).length) && decide (L.length = L.length) && (decide ((L.length + (le 8 (wd (t.kg (↑i : Int).toNat))).length) * 1 ≤ 1099511627776) && decide (L.length + (le 8 (wd (t.kg (↑i : Int).toNat))).length < 9223372036854775808))) (Br (decide (0 ≤ (↑i : Int)) && decide ((↑i : Int) < (↑t.nk : Int))) ((∀ (i_1 : Nat), i_1 < (le 8 (wd (t.kd (↑i : Int).toNat))).length → (bG (le 8 (wd (t.kd (↑i : Int).toNat))) i_1).length = 1 ∧ (bG (le 8 (wd (t.kd (↑i : Int).toNat))) i_1).all oneCell = true) ∧ (Br (decide ((le 8 (wd (t.kd (↑i : Int).toNat))).length ≤ (le 8 (wd (t.kd (↑i : Int).toNat))).length) && decide (L.length + (le 8 (wd (t.kg (↑i : Int).toNat))).length = L.length + (le 8 (wd (t.kg (↑i : Int).toNat))).length) && (decide ((L.length + (le 8 (wd (t.kg (↑i : Int).toNat))).length + (le 8 (wd (t.kd (↑i : Int).toNat))).length) * 1 ≤ 1099511627776) && decide (L.length + (le 8 (wd (t.kg (↑i : Int).toNat))).length + (le 8 (wd (t.kd (↑i : Int).toNat))).length < 9223372036854775808))) (Br (decide (0 ≤ (↑i : Int)) && decide ((↑i : Int) < (↑t.nk : Int))) ((∀ (i_1 : Nat), i_1 < [bif t.ko (↑i : Int).toNat then 1 else 0].length → (bG [bif t.ko (↑i : Int).toNat then 1 else 0] i_1).length = 1 ∧ (bG [bif t.ko (↑i : Int).toNat then 1 else 0] i_1).all oneCell = true) ∧ (Br (decide ([bif t.ko (↑i : Int).toNat then 1 else 0].length ≤ [bif t.ko (↑i : Int).toNat then 1 else 0].length) && decide (L.length + (le 8 (wd (t.kg (↑i : Int).toNat))).length + (le 8 (wd (t.kd (↑i : Int).toNat))).length = L.length + (le 8 (wd (t.kg (↑i : Int).toNat))).length + (le 8 (wd (t.kd (↑i : Int).toNat))).length) && (decide ((L.length + (le 8 (wd (t.kg (↑i : Int).toNat))).length + (le 8 (wd (t.kd (↑i : Int).toNat))).length + [bif t.ko (↑i : Int).toNat then 1 else 0].length) * 1 ≤ 1099511627776) && decide (L.length + (le 8 (wd (t.kg (↑i : Int).toNat))).length + (le 8 (wd (t.kd (↑i : Int).toNat))).length + [bif t.ko (↑i : Int).toNat then 1 else 0].length < 9223372036854775808))) (K Ex.normal { tmps := [(1, SV.ptr 0 0), (3, SV.own 1 0 1 (L.length + (le 8 (wd (t.kg (↑i : Int).toNat))).length + (le 8 (wd (t.kd (↑i : Int).toNat))).length + [bif t.ko (↑i : Int).toNat then 1 else 0].length)), (6, SV.int .i64 (IntKind.i64.wrap ((↑i : Int) + 1)))], store := [(0, some (SB.cells 34 (trkC t))), (1, some (SB.row 5 1 (L.length + (le 8 (wd (t.kg (↑i : Int).toNat))).length + (le 8 (wd (t.kd (↑i : Int).toNat))).length + [bif t.ko (↑i : Int).toNat then 1 else 0].length) (catR (L.length + (le 8 (wd (t.kg (↑i : Int).toNat))).length + (le 8 (wd (t.kd (↑i : Int).toNat))).length) (catR (L.length + (le 8 (wd (t.kg (↑i : Int).toNat))).length) (catR L.length (bG L) (bG (le 8 (wd (t.kg (↑i : Int).toNat))))) (bG (le 8 (wd (t.kd (↑i : Int).toNat))))) (bG [bif t.ko (↑i : Int).toNat then 1 else 0]))))], nxt := 2, dirty := [0, 1, 2, 3, 4, 5, 6, 7, 8, 9, 10, 11, 12], nt := 103 }) (False))) (False)) (False))) (False)) (False))) (False)) (K (Ex.exit 4) { tmps := [(1, SV.ptr 0 0), (3, SV.own 1 0 1 L.length), (6, SV.int .i64 (↑i : Int))], store := [(0, some (SB.cells 34 (trkC t))), (1, some (SB.row 5 1 L.length (bG L)))], nxt := 2, dirty := [0, 1, 2, 3, 4, 5, 6, 7, 8, 9, 10, 11, 12], nt := 103 })) := by kernel_rfl
theorem rgr_a0 (t : Trk) (i : Nat) (L : List Int) (K : KC) : afterE rgrE (keepW rgrR 0) rgrF rgrP0 0 K (.exit 0) (rgrS t 4 i L) =
  (∃ q_, loopE rgrE (keepW rgrR 0) rgrF rgrP2 2 0 K q_ { tmps := [(1, SV.ptr 0 0), (3, SV.own 1 0 1 L.length), (5, SV.int .i64 0)], store := [(0, some (SB.cells 34 (trkC t))), (1, some (SB.row 5 1 L.length (bG L)))], nxt := 2, dirty := [0, 1, 2, 3, 4, 5, 6, 7, 8, 9, 10, 11, 12], nt := 103 }) := by kernel_rfl
theorem rgr_a2 (t : Trk) (i : Nat) (L : List Int) (K : KC) : afterE rgrE (keepW rgrR 0) rgrF rgrP2 0 K (.exit 2) (rgrS t 5 i L) =
  ((∀ (i : Nat), i < (le 2 (wd (↑t.nk : Int))).length → (bG (le 2 (wd (↑t.nk : Int))) i).length = 1 ∧ (bG (le 2 (wd (↑t.nk : Int))) i).all oneCell = true) ∧ (Br (decide ((le 2 (wd (↑t.nk : Int))).length ≤ (le 2 (wd (↑t.nk : Int))).length) && decide (L.length = L.length) && (decide ((L.length + (le 2 (wd (↑t.nk : Int))).length) * 1 ≤ 1099511627776) && decide (L.length + (le 2 (wd (↑t.nk : Int))).length < 9223372036854775808))) (∃ q_, loopE rgrE (keepW rgrR 0) rgrF rgrP4 4 0 K q_ { tmps := [(1, SV.ptr 0 0), (3, SV.own 1 0 1 (L.length + (le 2 (wd (↑t.nk : Int))).length)), (6, SV.int .i64 0)], store := [(0, some (SB.cells 34 (trkC t))), (1, some (SB.row 5 1 (L.length + (le 2 (wd (↑t.nk : Int))).length) (catR L.length (bG L) (bG (le 2 (wd (↑t.nk : Int)))))))], nxt := 2, dirty := [0, 1, 2, 3, 4, 5, 6, 7, 8, 9, 10, 11, 12], nt := 103 }) (False))) := by kernel_rfl
theorem rgr_a4 (t : Trk) (i : Nat) (L : List Int) (K : KC) : afterE rgrE (keepW rgrR 0) rgrF rgrP4 0 K (.exit 4) (rgrS t 6 i L) =
  (K (SV.own 0 0 1 L.length) [some (SB.row 5 1 L.length (bG L))] []) := by kernel_rfl
theorem rgr_entry (t : Trk) (K : KC) : runL rgrR (fun _ => 0) w9 2 32 [.agg (trkC t)] [] K =
  ((∀ (i : Nat), i < (le 2 (wd t.rate)).length → (bG (le 2 (wd t.rate)) i).length = 1 ∧ (bG (le 2 (wd t.rate)) i).all oneCell = true) ∧ ((∀ (i : Nat), i < (le 8 (wd t.cell)).length → (bG (le 8 (wd t.cell)) i).length = 1 ∧ (bG (le 8 (wd t.cell)) i).all oneCell = true) ∧ ((∀ (i : Nat), i < (le 2 (wd t.cols)).length → (bG (le 2 (wd t.cols)) i).length = 1 ∧ (bG (le 2 (wd t.cols)) i).all oneCell = true) ∧ ((∀ (i : Nat), i < (le 2 (wd t.rows)).length → (bG (le 2 (wd t.rows)) i).length = 1 ∧ (bG (le 2 (wd t.rows)) i).all oneCell = true) ∧ ((∀ (i : Nat), i < (ptB t.cx t.cy).length → (bG (ptB t.cx t.cy) i).length = 1 ∧ (bG (ptB t.cx t.cy) i).all oneCell = true) ∧ (∃ q_, loopE rgrE (keepW rgrR 0) rgrF rgrP0 0 0 K q_ { tmps := [(1, SV.ptr 0 0), (3, SV.own 1 0 1 34), (4, SV.int .i64 0)], store := [(0, some (SB.cells 34 (trkC t))), (1, some (SB.row 5 1 34 (catR 18 (catR (markB.length + (le 2 (wd t.rate)).length + (le 8 (wd t.cell)).length + (le 2 (wd t.cols)).length) (catR (markB.length + (le 2 (wd t.rate)).length + (le 8 (wd t.cell)).length) (catR (markB.length + (le 2 (wd t.rate)).length) (catR markB.length (bG markB) (bG (le 2 (wd t.rate)))) (bG (le 8 (wd t.cell)))) (bG (le 2 (wd t.cols)))) (bG (le 2 (wd t.rows)))) (bG (ptB t.cx t.cy)))))], nxt := 2, dirty := [0, 1, 2, 3, 4, 5, 6, 7, 8, 9, 10, 11, 12], nt := 103 })))))) := by kernel_rfl
theorem rgo {M : List Int} {A : Prop} {c : Bool} (hc : c = true) (h : A) : (∀ i, i < M.length → (bG M i).length = 1 ∧ (bG M i).all oneCell = true) ∧ Br c A False := by
  subst hc; exact ⟨fun _ _ => ⟨rfl, rfl⟩, h⟩
theorem rg_loop {t : Trk} {v blk n : Nat} {path : List Nat} {KK : Ex → St → Prop} (F : Nat → List Int) (L : List Int) (hlen : L.length + (cat F n).length ≤ 1000000000)
    (hr : ∀ (i : Nat) (M : List Int) (K : Ex → St → Prop), i < n → M.length + (F i).length ≤ 1000000000 → K .normal (rgrS t v (i + 1 : Nat) (M ++ F i)) → roundE rgrE (keepW rgrR 0) rgrF path blk K (rgrS t v i M))
    (he : ∀ (M : List Int) (K : Ex → St → Prop), K (.exit blk) (rgrS t v n M) → roundE rgrE (keepW rgrR 0) rgrF path blk K (rgrS t v n M))
    (hK : KK (.exit blk) (rgrS t v n (L ++ cat F n))) : ∃ q, iter (roundE rgrE (keepW rgrR 0) rgrF path blk) KK q (rgrS t v 0 L) := by
  refine ⟨n + 1, ?_⟩
  have := loop_up (env := rgrE) (W := keepW rgrR 0) (fn := rgrF) (path := path) (blk := blk) (KK := KK) (fun i : Nat => rgrS t v i (L ++ cat F i)) n (fun _ => True) (fun i hi _ X hX => ?_) (fun _ X => he _ _ hK) trivial
  · simpa [cat] using this
  · refine hr i _ _ hi ?_ ?_
    · have := cat_mono (f := F) (show i + 1 ≤ n from hi)
      simp only [cat, List.length_append] at this ⊢
      omega
    · have := hX trivial
      simp only [cat, ← List.append_assoc] at this
      exact this
theorem rg_r0 {t : Trk} (hn : t.nh < 9223372036854775808) (i : Nat) (M : List Int) (K : Ex → St → Prop) (hi : i < t.nh) (hl : M.length + (le 8 (wd (t.h i))).length ≤ 1000000000) (hK : K .normal (rgrS t 4 (i + 1 : Nat) (M ++ le 8 (wd (t.h i))))) :
    roundE rgrE (keepW rgrR 0) rgrF rgrP0 0 K (rgrS t 4 i M) := by
  rw [rgr_r0, wi64_succ hi hn]
  simp only [Int.toNat_natCast]
  refine Br.of (fun _ => Br.of (fun _ => rgo (by simp [le_len] at hl ⊢; omega) ?_) fun c => in_f hi c) fun c => lt_f hi c
  rw [catR_bG rfl rfl, ← List.length_append]
  exact hK
theorem rg_r2 {t : Trk} (hn : t.ng < 9223372036854775808) (i : Nat) (M : List Int) (K : Ex → St → Prop) (hi : i < t.ng) (hl : M.length + (le 2 (wd (t.g i))).length ≤ 1000000000) (hK : K .normal (rgrS t 5 (i + 1 : Nat) (M ++ le 2 (wd (t.g i))))) :
    roundE rgrE (keepW rgrR 0) rgrF rgrP2 2 K (rgrS t 5 i M) := by
  rw [rgr_r2, wi64_succ hi hn]
  simp only [Int.toNat_natCast]
  refine Br.of (fun _ => Br.of (fun _ => rgo (by simp [le_len] at hl ⊢; omega) ?_) fun c => in_f hi c) fun c => lt_f hi c
  rw [catR_bG rfl rfl, ← List.length_append]
  exact hK
theorem rg_r4 {t : Trk} (hn : t.nk < 9223372036854775808) (i : Nat) (M : List Int) (K : Ex → St → Prop) (hi : i < t.nk) (hl : M.length + (kindB (t.kg i) (t.kd i) (t.ko i)).length ≤ 1000000000) (hK : K .normal (rgrS t 6 (i + 1 : Nat) (M ++ kindB (t.kg i) (t.kd i) (t.ko i)))) :
    roundE rgrE (keepW rgrR 0) rgrF rgrP4 4 K (rgrS t 6 i M) := by
  rw [rgr_r4, wi64_succ hi hn]
  simp only [Int.toNat_natCast]
  simp only [kindB, flB, le_len, List.length_append, List.length_cons, List.length_nil] at hl
  refine Br.of (fun _ => Br.of (fun _ => rgo (by simp [le_len]; omega) (Br.of (fun _ => rgo (by simp [le_len]; omega) (Br.of (fun _ => rgo (M := [bif t.ko i then 1 else 0]) ?c3 ?_) fun c => in_f hi c)) fun c => in_f hi c)) fun c => in_f hi c) fun c => lt_f hi c
  case c3 => simp only [le_len, List.length_cons, List.length_nil]; simp; omega
  simp only [catR_bG rfl rfl, ← List.length_append]
  simp only [kindB, flB, ← List.append_assoc] at hK
  simp only [rgrS, List.length_append] at hK ⊢
  exact hK
def gndB (t : Trk) : List Int := markB ++ le 2 (wd t.rate) ++ le 8 (wd t.cell) ++ le 2 (wd t.cols) ++ le 2 (wd t.rows) ++ ptB t.cx t.cy ++ cat (fun i => le 8 (wd (t.h i))) t.nh ++ cat (fun i => le 2 (wd (t.g i))) t.ng ++ le 2 (wd (t.nk : Int)) ++ cat (fun i => kindB (t.kg i) (t.kd i) (t.ko i)) t.nk
theorem rgr_law (t : Trk) (h1 : t.nh < 9223372036854775808) (h2 : t.ng < 9223372036854775808) (h3 : t.nk < 9223372036854775808) (hl : (gndB t).length ≤ 1000000000) (K : KC)
    (hK : K (.own 0 0 1 (gndB t).length) [some (.row 5 1 (gndB t).length (bG (gndB t)))] []) : runL rgrR (fun _ => 0) w9 2 32 [.agg (trkC t)] [] K := by
  rw [rgr_entry]
  refine ⟨fun _ _ => ⟨rfl, rfl⟩, fun _ _ => ⟨rfl, rfl⟩, fun _ _ => ⟨rfl, rfl⟩, fun _ _ => ⟨rfl, rfl⟩, fun _ _ => ⟨rfl, rfl⟩, ?_⟩
  have hb : ∀ M : List Int, M.length ≤ (gndB t).length → M.length ≤ 1000000000 := fun M h => Nat.le_trans h hl
  have e34 : 34 = (markB ++ le 2 (wd t.rate) ++ le 8 (wd t.cell) ++ le 2 (wd t.cols) ++ le 2 (wd t.rows) ++ ptB t.cx t.cy).length := by simp [le_len, ptB, markB]
  have e18 : 18 = (markB ++ le 2 (wd t.rate) ++ le 8 (wd t.cell) ++ le 2 (wd t.cols) ++ le 2 (wd t.rows)).length := by simp [le_len, markB]
  simp only [catR_bG rfl rfl, ← List.length_append]
  rw [catR_bG e18 rfl, e34]
  refine rg_loop (n := t.nh) (fun i => le 8 (wd (t.h i))) _ (by have := hl; unfold gndB at this; simp only [List.length_append] at this; simp only [List.length_append]; omega) (rg_r0 h1) (fun M K hK => ?_) ?_
  · rw [rgr_r0]; exact Br.of (fun c => lt_t c) fun _ => hK
  show afterE rgrE (keepW rgrR 0) rgrF rgrP0 0 K (.exit 0) (rgrS t 4 t.nh _)
  rw [rgr_a0]
  refine rg_loop (n := t.ng) (fun i => le 2 (wd (t.g i))) _ (by have := hl; unfold gndB at this; simp only [List.length_append] at this; simp only [List.length_append]; omega) (rg_r2 h2) (fun M K hK => ?_) ?_
  · rw [rgr_r2]; exact Br.of (fun c => lt_t c) fun _ => hK
  show afterE rgrE (keepW rgrR 0) rgrF rgrP2 0 K (.exit 2) (rgrS t 5 t.ng _)
  rw [rgr_a2]
  have hb3 := hb (markB ++ le 2 (wd t.rate) ++ le 8 (wd t.cell) ++ le 2 (wd t.cols) ++ le 2 (wd t.rows) ++ ptB t.cx t.cy ++ cat (fun i => le 8 (wd (t.h i))) t.nh ++ cat (fun i => le 2 (wd (t.g i))) t.ng ++ le 2 (wd (t.nk : Int))) (by unfold gndB; simp only [List.length_append]; omega)
  refine rgo (by simp only [List.length_append] at hb3; simp; omega) ?_
  rw [catR_bG rfl rfl, ← List.length_append]
  refine rg_loop (n := t.nk) (fun i => kindB (t.kg i) (t.kd i) (t.ko i)) _ (by have := hl; unfold gndB at this; simp only [List.length_append] at this; simp only [List.length_append]; omega) (rg_r4 h3) (fun M K hK => ?_) ?_
  · rw [rgr_r4]; exact Br.of (fun c => lt_t c) fun _ => hK
  show afterE rgrE (keepW rgrR 0) rgrF rgrP4 0 K (.exit 4) (rgrS t 6 t.nk _)
  rw [rgr_a4]
  exact hK
end Go.Proofs.YtbedljhbakdghaaGreatDoor

namespace Go.Proofs.YtbedljhbakdghaaGreatDoor
open Go.Se
set_option maxRecDepth 100000
theorem rgr_ok (t : Trk) (hl : (gndB t).length ≤ 1000000000) : CallOK Tryz.prog 32 [.agg (trkC t)] [] (.own 0 0 1 (gndB t).length) [some (.row 5 1 (gndB t).length (bG (gndB t)))] [] :=
  runL_ok rgrR (fun _ => 0) w9 2 (fun p hp => by cases hp) fun h _ K hK => rgr_law t h.1.2.2.2.2.2.2.1.1 h.1.2.2.2.2.2.2.2.1.1 h.1.2.2.2.2.2.2.2.2.1.1 hl K (hK _ fun _ h => h)
def gndK (t : Trk) (K : KC) : Prop := (gndB t).length ≤ 1000000000 ∧ K (.own 0 0 1 (gndB t).length) [some (.row 5 1 (gndB t).length (bG (gndB t)))] []
def cRGnd : List SV → List (Option SB) → KC → Prop
  | [.agg [.int .i64 a0, .int .i64 a1, .int .i64 a2, .int .i64 a3, .int .i64 a4, .int .i64 a5, .ro nh 1 h, .ro ng 1 g, .ro nk 3 kg, .ro nl 2 l, .ro nr 1 rl, .ro nt 5 gt, .int .i64 sx, .int .i64 sy, .int .u32 hd, .int .i64 lp]], [], K => trkS h g kg l rl gt ∧ gndK (trkOf a0 a1 a2 a3 a4 a5 nh h ng g nk kg nl l nr rl nt gt sx sy hd lp) K
  | _, _, _ => False
theorem rgnd1 (t : Trk) (K : KC) (hK : gndK t K) : ∃ v σ' d, K v σ' d ∧ CallOK Tryz.prog 32 [.agg (trkC t)] [] v σ' d :=
  ⟨_, _, _, hK.2, rgr_ok t hK.1⟩
theorem rgnd_sat (xs : List SV) (σ : List (Option SB)) : Sat Tryz.prog 32 xs σ (cRGnd xs σ) := by
  intro K hK
  unfold cRGnd at hK
  split at hK
  · obtain ⟨h1, hK⟩ := hK
    rw [trkC_of h1]
    exact rgnd1 _ K hK
  · exact hK.elim
noncomputable def w10 : Know Tryz.prog := (w9).add 32 cRGnd rgnd_sat
end Go.Proofs.YtbedljhbakdghaaGreatDoor

namespace Go.Proofs.YtbedljhbakdghaaGreatDoor
open Go.Se
set_option maxRecDepth 100000
def reR : List (Nat × Keep) := [(0, ⟨[1, 6, 7], [0, 1], [0, 1, 2, 3, 4, 5, 6, 7, 8, 9, 10, 11, 12], 2, [(6, 1)]⟩), (2, ⟨[1, 6, 8], [0, 1], [0, 1, 2, 3, 4, 5, 6, 7, 8, 9, 10, 11, 12], 2, [(6, 1)]⟩)]
def reS (t : Trk) (v : Nat) (i : Int) (L : List Int) : St := ⟨[(1, .ptr 0 0), (6, .own 1 0 1 L.length), (v, .int .i64 i)], [(0, some (.cells 34 (trkC t))), (1, some (.row 5 1 L.length (bG L)))], 2, [0, 1, 2, 3, 4, 5, 6, 7, 8, 9, 10, 11, 12], 100⟩
noncomputable abbrev reE : Env := envL reR (fun _ => 0) w10 1
noncomputable abbrev reF : Func := Tryz.f9
abbrev reP0 : List Nat := [1, 1, 1, 1, 1, 0, 1, 0]
abbrev reP2 : List Nat := [1, 1, 1, 1, 1, 1, 1, 0, 1, 0]
theorem re_r0 (t : Trk) (i : Nat) (L : List Int) (K : Ex → St → Prop) : roundE reE (keepW reR 0) reF reP0 0 K (reS t 7 i L) =
  (Br (decide ((↑i : Int) < (↑t.nr : Int))) (Br (decide (0 ≤ (↑i : Int)) && decide ((↑i : Int) < (↑t.nr : Int))) ((pts (ptsG (t.rx (↑i : Int).toNat) (t.ry (↑i : Int).toNat))) ∧ (((railB (t.rn (↑i : Int).toNat) (fun (i_1 : Nat) => px (ptsG (t.rx (↑i : Int).toNat) (t.ry (↑i : Int).toNat) i_1)) fun (i_1 : Nat) => py (ptsG (t.rx (↑i : Int).toNat) (t.ry (↑i : Int).toNat) i_1)).length ≤ 1000000000) ∧ ((∀ (i_1 : Nat), i_1 < (railB (t.rn (↑i : Int).toNat) (fun (i_2 : Nat) => px (ptsG (t.rx (↑i : Int).toNat) (t.ry (↑i : Int).toNat) i_2)) fun (i_2 : Nat) => py (ptsG (t.rx (↑i : Int).toNat) (t.ry (↑i : Int).toNat) i_2)).length → (bG (railB (t.rn (↑i : Int).toNat) (fun (i_2 : Nat) => px (ptsG (t.rx (↑i : Int).toNat) (t.ry (↑i : Int).toNat) i_2)) fun (i_2 : Nat) => py (ptsG (t.rx (↑i : Int).toNat) (t.ry (↑i : Int).toNat) i_2)) i_1).length = 1 ∧ (bG (railB (t.rn (↑i : Int).toNat) (fun (i_2 : Nat) => px (ptsG (t.rx (↑i : Int).toNat) (t.ry (↑i : Int).toNat) i_2)) fun (i_2 : Nat) => py (ptsG (t.rx (↑i : Int).toNat) (t.ry (↑i : Int).toNat) i_2)) i_1).all oneCell = true) ∧ (Br (decide ((railB (t.rn (↑i : Int).toNat) (fun (i_1 : Nat) => px (ptsG (t.rx (↑i : Int).toNat) (t.ry (↑i : Int).toNat) i_1)) fun (i_1 : Nat) => py (ptsG (t.rx (↑i : Int).toNat) (t.ry (↑i : Int).toNat) i_1)).length ≤ (railB (t.rn (↑i : Int).toNat) (fun (i_1 : Nat) => px (ptsG (t.rx (↑i : Int).toNat) (t.ry (↑i : Int).toNat) i_1)) fun (i_1 : Nat) => py (ptsG (t.rx (↑i : Int).toNat) (t.ry (↑i : Int).toNat) i_1)).length) && decide (L.length = L.length) && (decide ((L.length + (railB (t.rn (↑i : Int).toNat) (fun (i_1 : Nat) => px (ptsG (t.rx (↑i : Int).toNat) (t.ry (↑i : Int).toNat) i_1)) fun (i_1 : Nat) => py (ptsG (t.rx (↑i : Int).toNat) (t.ry (↑i : Int).toNat) i_1)).length) * 1 ≤ 1099511627776) && decide (L.length + (railB (t.rn (↑i : Int).toNat) (fun (i_1 : Nat) => px (ptsG (t.rx (↑i : Int).toNat) (t.ry (↑i : Int).toNat) i_1)) fun (i_1 : Nat) => py (ptsG (t.rx (↑i : Int).toNat) (t.ry (↑i : Int).toNat) i_1)).length < 9223372036854775808))) (K Ex.normal { tmps := [(1, SV.ptr 0 0), (6, SV.own 1 0 1 (L.length + (railB (t.rn (↑i : Int).toNat) (fun (i_1 : Nat) => px (ptsG (t.rx (↑i : Int).toNat) (t.ry (↑i : Int).toNat) i_1)) fun (i_1 : Nat) => py (ptsG (t.rx (↑i : Int).toNat) (t.ry (↑i : Int).toNat) i_1)).length)), (7, SV.int .i64 (IntKind.i64.wrap ((↑i : Int) + 1)))], store := [(0, some (SB.cells 34 (trkC t))), (1, some (SB.row 5 1 (L.length + (railB (t.rn (↑i : Int).toNat) (fun (i_1 : Nat) => px (ptsG (t.rx (↑i : Int).toNat) (t.ry (↑i : Int).toNat) i_1)) fun (i_1 : Nat) => py (ptsG (t.rx (↑i : Int).toNat) (t.ry (↑i : Int).toNat) i_1)).length) (catR L.length (bG L) (bG (railB (t.rn (↑i : Int).toNat) (fun (i_1 : Nat) => px (ptsG (t.rx (↑i : Int).toNat) (t.ry (↑i : Int).toNat) i_1)) fun (i_1 : Nat) => py (ptsG (t.rx (↑i : Int).toNat) (t.ry (↑i : Int).toNat) i_1))))))], nxt := 2, dirty := [0, 1, 2, 3, 4, 5, 6, 7, 8, 9, 10, 11, 12], nt := 100 }) (False))))) (False)) (K (Ex.exit 0) { tmps := [(1, SV.ptr 0 0), (6, SV.own 1 0 1 L.length), (7, SV.int .i64 (↑i : Int))], store := [(0, some (SB.cells 34 (trkC t))), (1, some (SB.row 5 1 L.length (bG L)))], nxt := 2, dirty := [0, 1, 2, 3, 4, 5, 6, 7, 8, 9, 10, 11, 12], nt := 100 })) := by kernel_rfl
theorem re_r2 (t : Trk) (i : Nat) (L : List Int) (K : Ex → St → Prop) : roundE reE (keepW reR 0) reF reP2 2 K (reS t 8 i L) =
  (Br (decide ((↑i : Int) < (↑t.nt : Int))) (Br (decide (0 ≤ (↑i : Int)) && decide ((↑i : Int) < (↑t.nt : Int))) ((∀ (i_1 : Nat), i_1 < (ptB (t.ax (↑i : Int).toNat) (t.ay (↑i : Int).toNat)).length → (bG (ptB (t.ax (↑i : Int).toNat) (t.ay (↑i : Int).toNat)) i_1).length = 1 ∧ (bG (ptB (t.ax (↑i : Int).toNat) (t.ay (↑i : Int).toNat)) i_1).all oneCell = true) ∧ (Br (decide ((ptB (t.ax (↑i : Int).toNat) (t.ay (↑i : Int).toNat)).length ≤ (ptB (t.ax (↑i : Int).toNat) (t.ay (↑i : Int).toNat)).length) && decide (L.length = L.length) && (decide ((L.length + (ptB (t.ax (↑i : Int).toNat) (t.ay (↑i : Int).toNat)).length) * 1 ≤ 1099511627776) && decide (L.length + (ptB (t.ax (↑i : Int).toNat) (t.ay (↑i : Int).toNat)).length < 9223372036854775808))) (Br (decide (0 ≤ (↑i : Int)) && decide ((↑i : Int) < (↑t.nt : Int))) ((∀ (i_1 : Nat), i_1 < (ptB (t.bx (↑i : Int).toNat) (t.sb (↑i : Int).toNat)).length → (bG (ptB (t.bx (↑i : Int).toNat) (t.sb (↑i : Int).toNat)) i_1).length = 1 ∧ (bG (ptB (t.bx (↑i : Int).toNat) (t.sb (↑i : Int).toNat)) i_1).all oneCell = true) ∧ (Br (decide ((ptB (t.bx (↑i : Int).toNat) (t.sb (↑i : Int).toNat)).length ≤ (ptB (t.bx (↑i : Int).toNat) (t.sb (↑i : Int).toNat)).length) && decide (L.length + (ptB (t.ax (↑i : Int).toNat) (t.ay (↑i : Int).toNat)).length = L.length + (ptB (t.ax (↑i : Int).toNat) (t.ay (↑i : Int).toNat)).length) && (decide ((L.length + (ptB (t.ax (↑i : Int).toNat) (t.ay (↑i : Int).toNat)).length + (ptB (t.bx (↑i : Int).toNat) (t.sb (↑i : Int).toNat)).length) * 1 ≤ 1099511627776) && decide (L.length + (ptB (t.ax (↑i : Int).toNat) (t.ay (↑i : Int).toNat)).length + (ptB (t.bx (↑i : Int).toNat) (t.sb (↑i : Int).toNat)).length < 9223372036854775808))) (Br (decide (0 ≤ (↑i : Int)) && decide ((↑i : Int) < (↑t.nt : Int))) ((∀ (i_1 : Nat), i_1 < [bif t.sp (↑i : Int).toNat then 1 else 0].length → (bG [bif t.sp (↑i : Int).toNat then 1 else 0] i_1).length = 1 ∧ (bG [bif t.sp (↑i : Int).toNat then 1 else 0] i_1).all oneCell = true) ∧ (Br (decide ([bif t.sp (↑i : Int).toNat then 1 else 0].length ≤ [bif t.sp (↑i : Int).toNat then 1 else 0].length) && decide (L.length + (ptB (t.ax (↑i : Int).toNat) (t.ay (↑i : Int).toNat)).length + (ptB (t.bx (↑i : Int).toNat) (t.sb (↑i : Int).toNat)).length = L.length + (ptB (t.ax (↑i : Int).toNat) (t.ay (↑i : Int).toNat)).length + (ptB (t.bx (↑i : Int).toNat) (t.sb (↑i : Int).toNat)).length) && (decide ((L.length + (ptB (t.ax (↑i : Int).toNat) (t.ay (↑i : Int).toNat)).length + (ptB (t.bx (↑i : Int).toNat) (t.sb (↑i : Int).toNat)).length + [bif t.sp (↑i : Int).toNat then 1 else 0].length) * 1 ≤ 1099511627776) && decide (L.length + (ptB (t.ax (↑i : Int).toNat) (t.ay (↑i : Int).toNat)).length + (ptB (t.bx (↑i : Int).toNat) (t.sb (↑i : Int).toNat)).length + [bif t.sp (↑i : Int).toNat then 1 else 0].length < 9223372036854775808))) (K Ex.normal { tmps := [(1, SV.ptr 0 0), (6, SV.own 1 0 1 (L.length + (ptB (t.ax (↑i : Int).toNat) (t.ay (↑i : Int).toNat)).length + (ptB (t.bx (↑i : Int).toNat) (t.sb (↑i : Int).toNat)).length + [bif t.sp (↑i : Int).toNat then 1 else 0].length)), (8, SV.int .i64 (IntKind.i64.wrap ((↑i : Int) + 1)))], store := [(0, some (SB.cells 34 (trkC t))), (1, some (SB.row 5 1 (L.length + (ptB (t.ax (↑i : Int).toNat) (t.ay (↑i : Int).toNat)).length + (ptB (t.bx (↑i : Int).toNat) (t.sb (↑i : Int).toNat)).length + [bif t.sp (↑i : Int).toNat then 1 else 0].length) (catR (L.length + (ptB (t.ax (↑i : Int).toNat) (t.ay (↑i : Int).toNat)).length + (ptB (t.bx (↑i : Int).toNat) (t.sb (↑i : Int).toNat)).length) (catR (L.length + (ptB (t.ax (↑i : Int).toNat) (t.ay (↑i : Int).toNat)).length) (catR L.length (bG L) (bG (ptB (t.ax (↑i : Int).toNat) (t.ay (↑i : Int).toNat)))) (bG (ptB (t.bx (↑i : Int).toNat) (t.sb (↑i : Int).toNat)))) (bG [bif t.sp (↑i : Int).toNat then 1 else 0]))))], nxt := 2, dirty := [0, 1, 2, 3, 4, 5, 6, 7, 8, 9, 10, 11, 12], nt := 100 }) (False))) (False)) (False))) (False)) (False))) (False)) (K (Ex.exit 2) { tmps := [(1, SV.ptr 0 0), (6, SV.own 1 0 1 L.length), (8, SV.int .i64 (↑i : Int))], store := [(0, some (SB.cells 34 (trkC t))), (1, some (SB.row 5 1 L.length (bG L)))], nxt := 2, dirty := [0, 1, 2, 3, 4, 5, 6, 7, 8, 9, 10, 11, 12], nt := 100 })) := by kernel_rfl
theorem re_a0 (t : Trk) (i : Nat) (L : List Int) (K : KC) : afterE reE (keepW reR 0) reF reP0 0 K (.exit 0) (reS t 7 i L) =
  ((∀ (i : Nat), i < (le 2 (wd (↑t.nt : Int))).length → (bG (le 2 (wd (↑t.nt : Int))) i).length = 1 ∧ (bG (le 2 (wd (↑t.nt : Int))) i).all oneCell = true) ∧ (Br (decide ((le 2 (wd (↑t.nt : Int))).length ≤ (le 2 (wd (↑t.nt : Int))).length) && decide (L.length = L.length) && (decide ((L.length + (le 2 (wd (↑t.nt : Int))).length) * 1 ≤ 1099511627776) && decide (L.length + (le 2 (wd (↑t.nt : Int))).length < 9223372036854775808))) (∃ q_, loopE reE (keepW reR 0) reF reP2 2 0 K q_ { tmps := [(1, SV.ptr 0 0), (6, SV.own 1 0 1 (L.length + (le 2 (wd (↑t.nt : Int))).length)), (8, SV.int .i64 0)], store := [(0, some (SB.cells 34 (trkC t))), (1, some (SB.row 5 1 (L.length + (le 2 (wd (↑t.nt : Int))).length) (catR L.length (bG L) (bG (le 2 (wd (↑t.nt : Int)))))))], nxt := 2, dirty := [0, 1, 2, 3, 4, 5, 6, 7, 8, 9, 10, 11, 12], nt := 100 }) (False))) := by kernel_rfl
theorem re_a2 (t : Trk) (i : Nat) (L : List Int) (K : KC) : afterE reE (keepW reR 0) reF reP2 0 K (.exit 2) (reS t 8 i L) =
  ((∀ (i : Nat), i < (ptB t.sx t.sy).length → (bG (ptB t.sx t.sy) i).length = 1 ∧ (bG (ptB t.sx t.sy) i).all oneCell = true) ∧ (Br (decide ((ptB t.sx t.sy).length ≤ (ptB t.sx t.sy).length) && decide (L.length = L.length) && (decide ((L.length + (ptB t.sx t.sy).length) * 1 ≤ 1099511627776) && decide (L.length + (ptB t.sx t.sy).length < 9223372036854775808))) ((∀ (i : Nat), i < (le 8 (wd (IntKind.i64.wrap t.head))).length → (bG (le 8 (wd (IntKind.i64.wrap t.head))) i).length = 1 ∧ (bG (le 8 (wd (IntKind.i64.wrap t.head))) i).all oneCell = true) ∧ (Br (decide ((le 8 (wd (IntKind.i64.wrap t.head))).length ≤ (le 8 (wd (IntKind.i64.wrap t.head))).length) && decide (L.length + (ptB t.sx t.sy).length = L.length + (ptB t.sx t.sy).length) && (decide ((L.length + (ptB t.sx t.sy).length + (le 8 (wd (IntKind.i64.wrap t.head))).length) * 1 ≤ 1099511627776) && decide (L.length + (ptB t.sx t.sy).length + (le 8 (wd (IntKind.i64.wrap t.head))).length < 9223372036854775808))) ((∀ (i : Nat), i < (le 2 (wd t.laps)).length → (bG (le 2 (wd t.laps)) i).length = 1 ∧ (bG (le 2 (wd t.laps)) i).all oneCell = true) ∧ (Br (decide ((le 2 (wd t.laps)).length ≤ (le 2 (wd t.laps)).length) && decide (L.length + (ptB t.sx t.sy).length + (le 8 (wd (IntKind.i64.wrap t.head))).length = L.length + (ptB t.sx t.sy).length + (le 8 (wd (IntKind.i64.wrap t.head))).length) && (decide ((L.length + (ptB t.sx t.sy).length + (le 8 (wd (IntKind.i64.wrap t.head))).length + (le 2 (wd t.laps)).length) * 1 ≤ 1099511627776) && decide (L.length + (ptB t.sx t.sy).length + (le 8 (wd (IntKind.i64.wrap t.head))).length + (le 2 (wd t.laps)).length < 9223372036854775808))) (K (SV.tup [SV.own 0 0 1 (L.length + (ptB t.sx t.sy).length + (le 8 (wd (IntKind.i64.wrap t.head))).length + (le 2 (wd t.laps)).length), SV.int .i64 0]) [some (SB.row 5 1 (L.length + (ptB t.sx t.sy).length + (le 8 (wd (IntKind.i64.wrap t.head))).length + (le 2 (wd t.laps)).length) (catR (L.length + (ptB t.sx t.sy).length + (le 8 (wd (IntKind.i64.wrap t.head))).length) (catR (L.length + (ptB t.sx t.sy).length) (catR L.length (bG L) (bG (ptB t.sx t.sy))) (bG (le 8 (wd (IntKind.i64.wrap t.head))))) (bG (le 2 (wd t.laps)))))] []) (False))) (False))) (False))) := by kernel_rfl
theorem re_entry (t : Trk) (K : KC) : runL reR (fun _ => 0) w10 2 9 [.agg (trkC t)] [] K =
  ((trkS (oneG t.h) (oneG t.g) (kindG t) (ptsG t.lx t.ly) (railG t) (gateG t)) ∧ ((smallC t.nr (railG t)) ∧ (Br ((rightV t).fst != 0) (K (SV.tup [SV.nils, SV.int .i64 (rightV t).fst]) [] []) ((trkS (oneG t.h) (oneG t.g) (kindG t) (ptsG t.lx t.ly) (railG t) (gateG t)) ∧ (((gndB t).length ≤ 1000000000) ∧ ((pts (ptsG t.lx t.ly)) ∧ (((railB t.nl (fun (i : Nat) => px (ptsG t.lx t.ly i)) fun (i : Nat) => py (ptsG t.lx t.ly i)).length ≤ 1000000000) ∧ ((∀ (i : Nat), i < (railB t.nl (fun (i : Nat) => px (ptsG t.lx t.ly i)) fun (i : Nat) => py (ptsG t.lx t.ly i)).length → (bG (railB t.nl (fun (i : Nat) => px (ptsG t.lx t.ly i)) fun (i : Nat) => py (ptsG t.lx t.ly i)) i).length = 1 ∧ (bG (railB t.nl (fun (i : Nat) => px (ptsG t.lx t.ly i)) fun (i : Nat) => py (ptsG t.lx t.ly i)) i).all oneCell = true) ∧ (Br (decide ((railB t.nl (fun (i : Nat) => px (ptsG t.lx t.ly i)) fun (i : Nat) => py (ptsG t.lx t.ly i)).length ≤ (railB t.nl (fun (i : Nat) => px (ptsG t.lx t.ly i)) fun (i : Nat) => py (ptsG t.lx t.ly i)).length) && decide ((gndB t).length = (gndB t).length) && (decide (((gndB t).length + (railB t.nl (fun (i : Nat) => px (ptsG t.lx t.ly i)) fun (i : Nat) => py (ptsG t.lx t.ly i)).length) * 1 ≤ 1099511627776) && decide ((gndB t).length + (railB t.nl (fun (i : Nat) => px (ptsG t.lx t.ly i)) fun (i : Nat) => py (ptsG t.lx t.ly i)).length < 9223372036854775808))) ((∀ (i : Nat), i < (le 2 (wd (↑t.nr : Int))).length → (bG (le 2 (wd (↑t.nr : Int))) i).length = 1 ∧ (bG (le 2 (wd (↑t.nr : Int))) i).all oneCell = true) ∧ (Br (decide ((le 2 (wd (↑t.nr : Int))).length ≤ (le 2 (wd (↑t.nr : Int))).length) && decide ((gndB t).length + (railB t.nl (fun (i : Nat) => px (ptsG t.lx t.ly i)) fun (i : Nat) => py (ptsG t.lx t.ly i)).length = (gndB t).length + (railB t.nl (fun (i : Nat) => px (ptsG t.lx t.ly i)) fun (i : Nat) => py (ptsG t.lx t.ly i)).length) && (decide (((gndB t).length + (railB t.nl (fun (i : Nat) => px (ptsG t.lx t.ly i)) fun (i : Nat) => py (ptsG t.lx t.ly i)).length + (le 2 (wd (↑t.nr : Int))).length) * 1 ≤ 1099511627776) && decide ((gndB t).length + (railB t.nl (fun (i : Nat) => px (ptsG t.lx t.ly i)) fun (i : Nat) => py (ptsG t.lx t.ly i)).length + (le 2 (wd (↑t.nr : Int))).length < 9223372036854775808))) (∃ q_, loopE reE (keepW reR 0) reF reP0 0 0 K q_ { tmps := [(1, SV.ptr 0 0), (6, SV.own 1 0 1 ((gndB t).length + (railB t.nl (fun (i : Nat) => px (ptsG t.lx t.ly i)) fun (i : Nat) => py (ptsG t.lx t.ly i)).length + (le 2 (wd (↑t.nr : Int))).length)), (7, SV.int .i64 0)], store := [(0, some (SB.cells 34 (trkC t))), (1, some (SB.row 5 1 ((gndB t).length + (railB t.nl (fun (i : Nat) => px (ptsG t.lx t.ly i)) fun (i : Nat) => py (ptsG t.lx t.ly i)).length + (le 2 (wd (↑t.nr : Int))).length) (catR ((gndB t).length + (railB t.nl (fun (i : Nat) => px (ptsG t.lx t.ly i)) fun (i : Nat) => py (ptsG t.lx t.ly i)).length) (catR (gndB t).length (bG (gndB t)) (bG (railB t.nl (fun (i : Nat) => px (ptsG t.lx t.ly i)) fun (i : Nat) => py (ptsG t.lx t.ly i)))) (bG (le 2 (wd (↑t.nr : Int)))))))], nxt := 2, dirty := [0, 1, 2, 3, 4, 5, 6, 7, 8, 9, 10, 11, 12], nt := 100 }) (False))) (False)))))))))) := by kernel_rfl
theorem appOk {p q r s : Prop} [Decidable p] [Decidable q] [Decidable r] [Decidable s] (hp : p) (hq : q) (hr : r) (hs : s) : (decide p && decide q && (decide r && decide s)) = true := by
  rw [decide_eq_true hp, decide_eq_true hq, decide_eq_true hr, decide_eq_true hs]; rfl
theorem pxF (x y : Nat → Int) : (fun i => px (ptsG x y i)) = x := rfl
theorem pyF (x y : Nat → Int) : (fun i => py (ptsG x y i)) = y := rfl
theorem re_loop {t : Trk} {v blk n : Nat} {path : List Nat} {KK : Ex → St → Prop} (F : Nat → List Int) (L : List Int) (hlen : L.length + (cat F n).length ≤ 1000000000)
    (hr : ∀ (i : Nat) (M : List Int) (K : Ex → St → Prop), i < n → M.length + (F i).length ≤ 1000000000 → K .normal (reS t v (i + 1 : Nat) (M ++ F i)) → roundE reE (keepW reR 0) reF path blk K (reS t v i M))
    (he : ∀ (M : List Int) (K : Ex → St → Prop), K (.exit blk) (reS t v n M) → roundE reE (keepW reR 0) reF path blk K (reS t v n M))
    (hK : KK (.exit blk) (reS t v n (L ++ cat F n))) : ∃ q, iter (roundE reE (keepW reR 0) reF path blk) KK q (reS t v 0 L) := by
  refine ⟨n + 1, ?_⟩
  have := loop_up (env := reE) (W := keepW reR 0) (fn := reF) (path := path) (blk := blk) (KK := KK) (fun i : Nat => reS t v i (L ++ cat F i)) n (fun _ => True) (fun i hi _ X hX => ?_) (fun _ X => he _ _ hK) trivial
  · simpa [cat] using this
  · refine hr i _ _ hi ?_ ?_
    · have := cat_mono (f := F) (show i + 1 ≤ n from hi)
      simp only [cat, List.length_append] at this ⊢
      omega
    · have := hX trivial
      simp only [cat, ← List.append_assoc] at this
      exact this
theorem re_p0 {t : Trk} (hn : t.nr < 9223372036854775808) (i : Nat) (M : List Int) (K : Ex → St → Prop) (hi : i < t.nr) (hl : M.length + (railB (t.rn i) (t.rx i) (t.ry i)).length ≤ 1000000000) (hK : K .normal (reS t 7 (i + 1 : Nat) (M ++ railB (t.rn i) (t.rx i) (t.ry i)))) :
    roundE reE (keepW reR 0) reF reP0 0 K (reS t 7 i M) := by
  rw [re_r0, wi64_succ hi hn]
  simp only [Int.toNat_natCast, pxF, pyF]
  refine Br.of (fun _ => Br.of (fun _ => ⟨fun _ => rfl, by omega, rgo (appOk (Nat.le_refl _) (by trivial) (by omega) (by omega)) ?_⟩) fun c => in_f hi c) fun c => lt_f hi c
  rw [catR_bG rfl rfl, ← List.length_append]
  exact hK
theorem re_p2 {t : Trk} (hn : t.nt < 9223372036854775808) (i : Nat) (M : List Int) (K : Ex → St → Prop) (hi : i < t.nt) (hl : M.length + (gateB (t.ax i) (t.ay i) (t.bx i) (t.sb i) (t.sp i)).length ≤ 1000000000) (hK : K .normal (reS t 8 (i + 1 : Nat) (M ++ gateB (t.ax i) (t.ay i) (t.bx i) (t.sb i) (t.sp i)))) :
    roundE reE (keepW reR 0) reF reP2 2 K (reS t 8 i M) := by
  rw [re_r2, wi64_succ hi hn]
  simp only [Int.toNat_natCast]
  simp only [gateB, ptB, flB, le_len, List.length_append, List.length_cons, List.length_nil] at hl
  refine Br.of (fun _ => Br.of (fun _ => rgo (by simp [ptB, le_len]; omega) (Br.of (fun _ => rgo (by simp [ptB, le_len]; omega) (Br.of (fun _ => rgo (M := [bif t.sp i then 1 else 0]) ?c3 ?_) fun c => in_f hi c)) fun c => in_f hi c)) fun c => in_f hi c) fun c => lt_f hi c
  case c3 => simp only [ptB, le_len, List.length_append, List.length_cons, List.length_nil]; simp; omega
  simp only [catR_bG rfl rfl, ← List.length_append]
  simp only [gateB, flB, ← List.append_assoc] at hK
  simp only [reS, List.length_append] at hK ⊢
  exact hK
theorem enc_re (t : Trk) : encBy t = gndB t ++ railB t.nl t.lx t.ly ++ le 2 (wd (t.nr : Int)) ++ cat (fun i => railB (t.rn i) (t.rx i) (t.ry i)) t.nr ++ le 2 (wd (t.nt : Int)) ++ cat (fun i => gateB (t.ax i) (t.ay i) (t.bx i) (t.sb i) (t.sp i)) t.nt ++ ptB t.sx t.sy ++ le 8 (wd (IntKind.i64.wrap t.head)) ++ le 2 (wd t.laps) := by
  simp only [encBy, gndB, railB, List.append_assoc]
theorem re_law (t : Trk) (h1 : t.nr < 9223372036854775808) (h2 : t.nt < 9223372036854775808) (hs : smallR t) (hl : (encBy t).length ≤ 1000000000) (K : KC)
    (hK : bif (rightV t).1 != 0 then K (.tup [.nils, .int .i64 (rightV t).1]) [] [] else K (.tup [.own 0 0 1 (encBy t).length, .int .i64 0]) [some (.row 5 1 (encBy t).length (bG (encBy t)))] []) : runL reR (fun _ => 0) w10 2 9 [.agg (trkC t)] [] K := by
  rw [re_entry]
  rw [enc_re] at hl hK
  have hg : ∀ M : List Int, M.length ≤ (gndB t ++ railB t.nl t.lx t.ly ++ le 2 (wd (t.nr : Int)) ++ cat (fun i => railB (t.rn i) (t.rx i) (t.ry i)) t.nr ++ le 2 (wd (t.nt : Int)) ++ cat (fun i => gateB (t.ax i) (t.ay i) (t.bx i) (t.sb i) (t.sp i)) t.nt ++ ptB t.sx t.sy ++ le 8 (wd (IntKind.i64.wrap t.head)) ++ le 2 (wd t.laps)).length → M.length ≤ 1000000000 := fun M h => Nat.le_trans h hl
  refine ⟨trkS_of t, hs, Br.of (fun c => ?_) fun c => ?_⟩
  · rw [c] at hK; exact hK
  rw [c, cond_false] at hK
  simp only [List.length_append] at hl
  simp only [pxF, pyF]
  refine ⟨trkS_of t, by omega, fun _ => rfl, by omega, rgo (appOk (Nat.le_refl _) (by trivial) (by omega) (by omega)) (rgo (appOk (Nat.le_refl _) (by trivial) (by omega) (by omega)) ?_)⟩
  simp only [catR_bG rfl rfl, ← List.length_append]
  refine re_loop (n := t.nr) (fun i => railB (t.rn i) (t.rx i) (t.ry i)) _ (by simp only [List.length_append]; omega) (re_p0 h1) (fun M K hK => ?_) ?_
  · rw [re_r0]; exact Br.of (fun c => lt_t c) fun _ => hK
  show afterE reE (keepW reR 0) reF reP0 0 K (.exit 0) (reS t 7 t.nr _)
  rw [re_a0]
  refine rgo (appOk (Nat.le_refl _) (by trivial) (by simp only [List.length_append]; omega) (by simp only [List.length_append]; omega)) ?_
  rw [catR_bG rfl rfl, ← List.length_append]
  refine re_loop (n := t.nt) (fun i => gateB (t.ax i) (t.ay i) (t.bx i) (t.sb i) (t.sp i)) _ (by simp only [List.length_append]; omega) (re_p2 h2) (fun M K hK => ?_) ?_
  · rw [re_r2]; exact Br.of (fun c => lt_t c) fun _ => hK
  show afterE reE (keepW reR 0) reF reP2 0 K (.exit 2) (reS t 8 t.nt _)
  rw [re_a2]
  refine rgo (appOk (Nat.le_refl _) (by trivial) (by simp only [List.length_append]; omega) (by simp only [List.length_append]; omega)) (rgo (appOk (Nat.le_refl _) (by trivial) (by simp only [List.length_append]; omega) (by simp only [List.length_append]; omega)) (rgo (appOk (Nat.le_refl _) (by trivial) (by simp only [List.length_append]; omega) (by simp only [List.length_append]; omega)) ?_))
  simp only [catR_bG rfl rfl, ← List.length_append]
  exact hK
theorem renc_run {t : Trk} (hs : smallR t) (hl : (encBy t).length ≤ 1000000000) {v : SV} {σ : List (Option SB)}
    (h : t.nr < 9223372036854775808 → t.nt < 9223372036854775808 → ∀ K : KC, K v σ [] → runL reR (fun _ => 0) w10 2 9 [.agg (trkC t)] [] K) : CallOK Tryz.prog 9 [.agg (trkC t)] [] v σ [] :=
  runL_ok reR (fun _ => 0) w10 2 (fun p hp => by cases hp) fun ⟨⟨_, _, _, _, _, _, _, _, _, _, hr, ht, _⟩, _⟩ _ K hK => h hr.1 ht.1 K (hK _ fun _ h => h)
theorem renc_sat1 (t : Trk) (hs : smallR t) (K : KC) (hK : encKt t K) : ∃ v σ' d, K v σ' d ∧ CallOK Tryz.prog 9 [.agg (trkC t)] [] v σ' d := by
  obtain ⟨hl, hK⟩ := hK
  rcases Br.elim hK with ⟨c, hK⟩ | ⟨c, hK⟩
  · exact ⟨_, _, _, hK, renc_run hs hl fun h1 h2 K hK => re_law t h1 h2 hs hl K (by rw [c]; exact hK)⟩
  · exact ⟨_, _, _, hK, callOK_frz2 rfl (fun i hi => ⟨rfl, rfl⟩) (renc_run hs hl fun h1 h2 K hK => re_law t h1 h2 hs hl K (by rw [c]; exact hK))⟩
theorem renc_sat (xs : List SV) (σ : List (Option SB)) : Sat Tryz.prog 9 xs σ (cEnc xs σ) := by
  intro K hK
  unfold cEnc at hK
  split at hK
  · obtain ⟨h1, h2, hK⟩ := hK
    rw [trkC_of h1]
    exact renc_sat1 _ (by exact h2) K hK
  · exact hK.elim
noncomputable def w11 : Know Tryz.prog := (w10).add 9 cEnc renc_sat
end Go.Proofs.YtbedljhbakdghaaGreatDoor

