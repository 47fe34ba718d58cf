import Derived.Test.YtbedljhbakdghaaGreatDoorWd
namespace Go.Proofs.YtbedljhbakdghaaGreatDoor
open Go.Se
set_option maxRecDepth 100000
def encKt (t : Trk) (K : KC) : Prop := (encBy t).length ≤ 1000000000 ∧ Br ((rightV t).1 != 0) (K (.tup [.nils, .int .i64 (rightV t).1]) [] []) (K (.tup [.ro (encBy t).length 1 (bG (encBy t)), .int .i64 0]) [] [])
def cEnc : List SV → List (Option SB) → KC → Prop
  | [.agg [.int .i64 a0, .int .i64 a1, .int .i64 a2, .int .i64 a3, .int .i64 a4, .int .i64 a5, .ro nh 1 h, .ro ng 1 g, .ro nk 3 kg, .ro nl 2 l, .ro nr 1 rl, .ro nt 5 gt, .int .i64 sx, .int .i64 sy, .int .u32 hd, .int .i64 lp]], [], K => trkS h g kg l rl gt ∧ smallC nr rl ∧ encKt (trkOf a0 a1 a2 a3 a4 a5 nh h ng g nk kg nl l nr rl nt gt sx sy hd lp) K
  | _, _, _ => False
theorem enc_run {t : Trk} (hs : smallR t) (hl : (encBy t).length ≤ 1000000000) {v : SV} {σ : List (Option SB)}
    (h : ∀ K : KC, K v σ [] → runE K t) : CallOK Tryz.prog 8 [.agg (trkC t)] [] v σ [] := by
  obtain ⟨v', σ', d', ⟨rfl, rfl, rfl⟩, hc⟩ := calls_sat (env := tab.env w6 (fun _ => 0) encCut) ⟨tab.htt, w6.ok⟩ tab.mixed (fun n => keepP_weaker n encR) tab.hft 4 _ _ _ (fun v' σ' d' => v' = v ∧ σ' = σ ∧ d' = []) (h _ ⟨rfl, rfl, rfl⟩)
  exact hc
theorem enc_sat1 (t : Trk) (hs : smallR t) (K : KC) (hK : encKt t K) : ∃ v σ' d, K v σ' d ∧ CallOK Tryz.prog 8 [.agg (trkC t)] [] v σ' d := by
  obtain ⟨hl, hK⟩ := hK
  rcases Br.elim hK with ⟨c, hK⟩ | ⟨c, hK⟩
  · exact ⟨_, _, _, hK, enc_run hs hl fun K hK => enc_law t hs hl K (by rw [c]; exact hK)⟩
  · exact ⟨_, _, _, hK, callOK_frz2 rfl (fun i hi => ⟨rfl, rfl⟩) (enc_run hs hl fun K hK => enc_law t hs hl K (by rw [c]; exact hK))⟩
theorem enc_sat (xs : List SV) (σ : List (Option SB)) : Sat Tryz.prog 8 xs σ (cEnc xs σ) := by
  intro K hK
  unfold cEnc at hK
  split at hK
  · obtain ⟨h1, h2, hK⟩ := hK
    rw [trkC_of h1]
    exact enc_sat1 _ (by exact h2) K hK
  · exact hK.elim
/-! ### The reference's words. -/
theorem rnum_nf (x : Int) (K : KC) : runU 10 w6 2 37 [.int .i64 x] [] K = K (.own 0 0 1 8) [some (.lst 5 (tdB 8 (IntKind.u64.wrap x)))] [] := by kernel_rfl
theorem rcount_nf (x : Int) (K : KC) : runU 10 w6 2 34 [.int .i64 x] [] K = K (.arr 0 0 2 2) [some (.cells 5 (tdB 2 (IntKind.u64.wrap x)))] [] := by kernel_rfl
theorem rflag_nf (x : Bool) (K : KC) : runU 10 w6 2 36 [.bool x] [] K =
  (Br (x) (K (SV.arr 0 0 1 1) [some (SB.cells 5 [SV.int .u8 1])] []) (K (SV.arr 0 0 1 1) [some (SB.cells 5 [SV.int .u8 0])] [])) := by kernel_rfl
theorem rmark_nf (K : KC) : runU 10 w6 2 82 [.str ⟨#[67, 72, 84, 82]⟩] [] K =
  (K (SV.own 0 0 1 4) [some (SB.lst 5 [SV.int .u8 67, SV.int .u8 72, SV.int .u8 84, SV.int .u8 82])] []) := by kernel_rfl
def cRNum : List SV → List (Option SB) → KC → Prop := cRB 5 (encI 8)
def cRCount : List SV → List (Option SB) → KC → Prop := cRB 5 (encI 2)
def cRFlag : List SV → List (Option SB) → KC → Prop := cRB 5 encB
theorem rnum_sat (xs : List SV) (σ : List (Option SB)) : Sat Tryz.prog 37 xs σ (cRNum xs σ) :=
  cRB_sat (fun xs M henc => by
    unfold encI at henc
    split at henc
    · rename_i x
      cases henc
      rw [le_len]
      refine callOK_out (fun ρ T w b h => lst_row (tdB_le 8 (wd x) (wd_lo x) (wd_hi x)) (by rw [le_len]) h) (runU_ok 10 w6 2 fun _ _ K hK => ?_)
      rw [rnum_nf]; exact hK
    · cases henc) xs σ
theorem rcount_sat (xs : List SV) (σ : List (Option SB)) : Sat Tryz.prog 34 xs σ (cRCount xs σ) :=
  cRB_sat (fun xs M henc => by
    unfold encI at henc
    split at henc
    · rename_i x
      cases henc
      rw [le_len]
      refine callOK_arr (by decide) (by rw [le_len]) (tdB_le 2 (wd x) (wd_lo x) (wd_hi x)) (runU_ok 10 w6 2 fun _ _ K hK => ?_)
      rw [rcount_nf]; exact hK
    · cases henc) xs σ
theorem rflag_sat (xs : List SV) (σ : List (Option SB)) : Sat Tryz.prog 36 xs σ (cRFlag xs σ) :=
  cRB_sat (fun xs M henc => by
    unfold encB at henc
    split at henc
    · rename_i b
      cases henc
      refine callOK_arr (n := 1) (cs := [.int .u8 (bif b then 1 else 0)]) (by decide) rfl rfl (runU_ok 10 w6 2 fun _ _ K hK => ?_)
      rw [rflag_nf]
      refine Br.of (fun hb => ?_) fun hb => ?_
      · rw [hb] at hK; exact hK
      · rw [hb] at hK; exact hK
    · cases henc) xs σ
def encMk : List SV → Option (List Int)
  | [.str s] => bif s.data == #[67, 72, 84, 82] then some markB else none
  | _ => none
theorem rmark_sat (xs : List SV) (σ : List (Option SB)) : Sat Tryz.prog 82 xs σ (cRB 5 encMk xs σ) :=
  cRB_sat (fun xs M henc => by
    unfold encMk at henc
    split at henc
    · rename_i s
      obtain ⟨da⟩ := s
      cases he : da == #[67, 72, 84, 82] with
      | false => simp only [he, cond_false] at henc; cases henc
      | true =>
        simp only [he, cond_true] at henc
        cases henc
        obtain rfl := eq_of_beq he
        refine callOK_out (fun ρ T w b h => lst_row (L := markB) (cs := encM) rfl rfl h) (runU_ok 10 w6 2 fun _ _ K hK => ?_)
        rw [rmark_nf]; exact hK
    · cases henc) xs σ
def cRMark : List SV → List (Option SB) → KC → Prop := cRB 5 encMk
noncomputable def w7 : Know Tryz.prog := (((((w6).add 37 cRNum rnum_sat).add 34 cRCount rcount_sat).add 36 cRFlag rflag_sat).add 82 cRMark rmark_sat).add 8 cEnc enc_sat
theorem rplace_nf (x y : Int) (K : KC) : run w7 2 35 [.agg [.int .i64 x, .int .i64 y]] [] K =
  ((∀ (i : Nat), i < (le 8 (wd y)).length → (bG (le 8 (wd y)) i).length = 1 ∧ (bG (le 8 (wd y)) i).all oneCell = true) ∧ (K (SV.own 0 0 1 16) [some (SB.row 5 1 16 (catR 8 (bG (le 8 (wd x))) (bG (le 8 (wd y)))))] [])) := by kernel_rfl
def cRPlace : List SV → List (Option SB) → KC → Prop := cRB 5 encP
theorem rplace_sat (xs : List SV) (σ : List (Option SB)) : Sat Tryz.prog 35 xs σ (cRPlace xs σ) :=
  cRB_sat (fun xs M henc => by
    unfold encP at henc
    split at henc
    · rename_i x y
      cases henc
      refine run_ok w7 2 fun _ _ K hK => ?_
      rw [rplace_nf]
      refine ⟨fun _ _ => ⟨rfl, rfl⟩, ?_⟩
      rw [catR_bG (by rw [le_len]) rfl]
      have e : (ptB x y).length = 16 := by unfold ptB; simp [le_len]
      rw [e] at hK
      exact hK
    · cases henc) xs σ
noncomputable def w8 : Know Tryz.prog := (w7).add 35 cRPlace rplace_sat
end Go.Proofs.YtbedljhbakdghaaGreatDoor

