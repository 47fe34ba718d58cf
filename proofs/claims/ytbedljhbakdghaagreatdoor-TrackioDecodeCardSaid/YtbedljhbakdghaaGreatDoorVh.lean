import Derived.Test.YtbedljhbakdghaaGreatDoorVf
import Derived.Test.YtbedljhbakdghaaGreatDoorSeBm
import Derived.Test.YtbedljhbakdghaaGreatDoorSeWire
namespace Go.Proofs.YtbedljhbakdghaaGreatDoor
open Go.Se
set_option maxRecDepth 100000
theorem samp_nf (K : KC) : runU 40 t0 6 38 [] [] K =
  (K (SV.agg [SV.int .i64 64, SV.int .i64 68719476736, SV.int .i64 4, SV.int .i64 4, SV.int .i64 0, SV.int .i64 0, SV.own 0 0 1 25, SV.own 1 0 1 16, SV.arr 2 0 2 2, SV.arr 3 0 4 4, SV.arr 4 0 2 2, SV.arr 7 0 3 3, SV.int .i64 137438953472, SV.int .i64 42949672960, SV.int .u32 0, SV.int .i64 2]) [some (SB.lst 22 [SV.int .i64 0, SV.int .i64 0, SV.int .i64 0, SV.int .i64 0, SV.int .i64 0, SV.int .i64 0, SV.int .i64 0, SV.int .i64 0, SV.int .i64 0, SV.int .i64 0, SV.int .i64 0, SV.int .i64 0, SV.int .i64 0, SV.int .i64 0, SV.int .i64 0, SV.int .i64 0, SV.int .i64 0, SV.int .i64 0, SV.int .i64 0, SV.int .i64 0, SV.int .i64 0, SV.int .i64 0, SV.int .i64 0, SV.int .i64 0, SV.int .i64 0]), some (SB.lst 3 [SV.int .i64 0, SV.int .i64 0, SV.int .i64 0, SV.int .i64 0, SV.int .i64 0, SV.int .i64 1, SV.int .i64 1, SV.int .i64 0, SV.int .i64 0, SV.int .i64 1, SV.int .i64 1, SV.int .i64 0, SV.int .i64 0, SV.int .i64 0, SV.int .i64 0, SV.int .i64 0]), some (SB.cells 60 [SV.int .i64 4294967296, SV.int .i64 67108864, SV.bool false, SV.int .i64 2147483648, SV.int .i64 536870912, SV.bool true]), some (SB.cells 24 [SV.int .i64 42949672960, SV.int .i64 42949672960, SV.int .i64 231928233984, SV.int .i64 42949672960, SV.int .i64 231928233984, SV.int .i64 231928233984, SV.int .i64 42949672960, SV.int .i64 231928233984]), some (SB.cells 28 [SV.arr 5 0 5 5, SV.arr 6 0 5 5]), some (SB.cells 24 [SV.int .i64 8589934592, SV.int .i64 8589934592, SV.int .i64 266287972352, SV.int .i64 8589934592, SV.int .i64 266287972352, SV.int .i64 266287972352, SV.int .i64 8589934592, SV.int .i64 266287972352, SV.int .i64 8589934592, SV.int .i64 8589934592]), some (SB.cells 24 [SV.int .i64 103079215104, SV.int .i64 103079215104, SV.int .i64 103079215104, SV.int .i64 171798691840, SV.int .i64 171798691840, SV.int .i64 171798691840, SV.int .i64 171798691840, SV.int .i64 103079215104, SV.int .i64 103079215104, SV.int .i64 103079215104]), some (SB.cells 67 [SV.int .i64 154618822656, SV.int .i64 103079215104, SV.int .i64 154618822656, SV.int .i64 8589934592, SV.bool false, SV.int .i64 171798691840, SV.int .i64 154618822656, SV.int .i64 266287972352, SV.int .i64 154618822656, SV.bool true, SV.int .i64 120259084288, SV.int .i64 171798691840, SV.int .i64 120259084288, SV.int .i64 266287972352, SV.bool false])] []) := by kernel_rfl
/-- The sample's track. -/
def sampT : TL := ⟨64, 68719476736, 4, 4, (0, 0), [0, 0, 0, 0, 0, 0, 0, 0, 0, 0, 0, 0, 0, 0, 0, 0, 0, 0, 0, 0, 0, 0, 0, 0, 0], [0, 0, 0, 0, 0, 1, 1, 0, 0, 1, 1, 0, 0, 0, 0, 0], [(4294967296, 67108864, false), (2147483648, 536870912, true)], [(42949672960, 42949672960), (231928233984, 42949672960), (231928233984, 231928233984), (42949672960, 231928233984)], [[(8589934592, 8589934592), (266287972352, 8589934592), (266287972352, 266287972352), (8589934592, 266287972352), (8589934592, 8589934592)], [(103079215104, 103079215104), (103079215104, 171798691840), (171798691840, 171798691840), (171798691840, 103079215104), (103079215104, 103079215104)]], [(154618822656, 103079215104, 154618822656, 8589934592, false), (171798691840, 154618822656, 266287972352, 154618822656, true), (120259084288, 171798691840, 120259084288, 266287972352, false)], (137438953472, 42949672960), 0, 2⟩
def sampV : SV := .agg [SV.int .i64 64, SV.int .i64 68719476736, SV.int .i64 4, SV.int .i64 4, SV.int .i64 0, SV.int .i64 0, SV.own 0 0 1 25, SV.own 1 0 1 16, SV.arr 2 0 2 2, SV.arr 3 0 4 4, SV.arr 4 0 2 2, SV.arr 7 0 3 3, SV.int .i64 137438953472, SV.int .i64 42949672960, SV.int .u32 0, SV.int .i64 2]
def sampB : List (Option SB) := [some (SB.lst 22 [SV.int .i64 0, SV.int .i64 0, SV.int .i64 0, SV.int .i64 0, SV.int .i64 0, SV.int .i64 0, SV.int .i64 0, SV.int .i64 0, SV.int .i64 0, SV.int .i64 0, SV.int .i64 0, SV.int .i64 0, SV.int .i64 0, SV.int .i64 0, SV.int .i64 0, SV.int .i64 0, SV.int .i64 0, SV.int .i64 0, SV.int .i64 0, SV.int .i64 0, SV.int .i64 0, SV.int .i64 0, SV.int .i64 0, SV.int .i64 0, SV.int .i64 0]), some (SB.lst 3 [SV.int .i64 0, SV.int .i64 0, SV.int .i64 0, SV.int .i64 0, SV.int .i64 0, SV.int .i64 1, SV.int .i64 1, SV.int .i64 0, SV.int .i64 0, SV.int .i64 1, SV.int .i64 1, SV.int .i64 0, SV.int .i64 0, SV.int .i64 0, SV.int .i64 0, SV.int .i64 0]), some (SB.cells 60 [SV.int .i64 4294967296, SV.int .i64 67108864, SV.bool false, SV.int .i64 2147483648, SV.int .i64 536870912, SV.bool true]), some (SB.cells 24 [SV.int .i64 42949672960, SV.int .i64 42949672960, SV.int .i64 231928233984, SV.int .i64 42949672960, SV.int .i64 231928233984, SV.int .i64 231928233984, SV.int .i64 42949672960, SV.int .i64 231928233984]), some (SB.cells 28 [SV.arr 5 0 5 5, SV.arr 6 0 5 5]), some (SB.cells 24 [SV.int .i64 8589934592, SV.int .i64 8589934592, SV.int .i64 266287972352, SV.int .i64 8589934592, SV.int .i64 266287972352, SV.int .i64 266287972352, SV.int .i64 8589934592, SV.int .i64 266287972352, SV.int .i64 8589934592, SV.int .i64 8589934592]), some (SB.cells 24 [SV.int .i64 103079215104, SV.int .i64 103079215104, SV.int .i64 103079215104, SV.int .i64 171798691840, SV.int .i64 171798691840, SV.int .i64 171798691840, SV.int .i64 171798691840, SV.int .i64 103079215104, SV.int .i64 103079215104, SV.int .i64 103079215104]), some (SB.cells 67 [SV.int .i64 154618822656, SV.int .i64 103079215104, SV.int .i64 154618822656, SV.int .i64 8589934592, SV.bool false, SV.int .i64 171798691840, SV.int .i64 154618822656, SV.int .i64 266287972352, SV.int .i64 154618822656, SV.bool true, SV.int .i64 120259084288, SV.int .i64 171798691840, SV.int .i64 120259084288, SV.int .i64 266287972352, SV.bool false])]
theorem range_eq {α : Type} {g g' : Nat → α} {n : Nat} (h : (List.range n).map g = (List.range n).map g') : ∀ i, i < n → g i = g' i := fun i hi => by
  have := congrArg (fun l => l[i]?) h
  simp only [List.getElem?_map, List.getElem?_range hi, Option.map_some, Option.some.injEq] at this
  exact this
theorem samp_rel {ρ : Names} {T : Nat → Prop} {w : World} {x : Value} (h : rel ρ T w (frz 6 sampB sampV) x) : rel ρ T w (.agg (trkC sampT.trk)) x := by
  obtain ⟨a, rfl, v1, l1, z1, q1, v2, l2, z2, q2, v3, l3, z3, q3, v4, l4, z4, q4, v5, l5, z5, q5, v6, l6, z6, q6, v7, l7, z7, q7, v8, l8, z8, q8, v9, l9, z9, q9, v10, l10, z10, q10, v11, l11, z11, q11, v12, l12, z12, q12, v13, l13, z13, q13, v14, l14, z14, q14, v15, l15, z15, q15, v16, l16, z16, q16, q17⟩ := h
  refine ⟨a, rfl, v1, l1, z1, q1, v2, l2, z2, q2, v3, l3, z3, q3, v4, l4, z4, q4, v5, l5, z5, q5, v6, l6, z6, q6, v7, l7, z7, ro_eq rfl (range_eq (by kernel_rfl)) q7, v8, l8, z8, ro_eq rfl (range_eq (by kernel_rfl)) q8, v9, l9, z9, ro_eq rfl (range_eq (by kernel_rfl)) q9, v10, l10, z10, ro_eq rfl (range_eq (by kernel_rfl)) q10, v11, l11, z11, ro_congr2 rfl (fun i hi b o hb => ?_) q11, v12, l12, z12, ro_eq rfl (range_eq (by kernel_rfl)) q12, v13, l13, z13, q13, v14, l14, z14, q14, v15, l15, z15, q15, v16, l16, z16, q16, q17⟩
  match i, hi with
  | 0, _ =>
    obtain ⟨⟨x, hx, hr⟩, hb2⟩ := hb
    exact ⟨⟨x, hx, ro_eq rfl (range_eq (by kernel_rfl)) hr⟩, hb2⟩
  | 1, _ =>
    obtain ⟨⟨x, hx, hr⟩, hb2⟩ := hb
    exact ⟨⟨x, hx, ro_eq rfl (range_eq (by kernel_rfl)) hr⟩, hb2⟩
theorem samp_ok : CallOK Tryz.prog 38 [] [] (.agg (trkC sampT.trk)) [] [] :=
  callOK_val (fun _ _ _ _ h => samp_rel h) (callOK_frzAll 6 (v := sampV) (σ' := sampB) (runU_ok 40 t0 6 fun _ _ K hK => by rw [samp_nf]; exact hK))
theorem samp_right : rightV sampT.trk = (0, 0) := by kernel_rfl
def cSamp (t : Trk) : List SV → List (Option SB) → Out
  | [], [] => some (.agg (trkC t), [], [])
  | _, _ => none
theorem samp_sat (xs : List SV) (σ : List (Option SB)) : Sat Tryz.prog 38 xs σ (one (cSamp sampT.trk) xs σ) :=
  one_sat (fun xs σ v σ' d h => by
    unfold cSamp at h
    split at h
    · cases h; exact samp_ok
    · cases h) xs σ
noncomputable def r9 (t : Trk) (h : ∀ xs σ, Sat Tryz.prog 38 xs σ (one (cSamp t) xs σ)) : Know Tryz.prog := r8.add 38 (one (cSamp t)) h
theorem awake15_nf (t : Trk) (h : ∀ xs σ, Sat Tryz.prog 38 xs σ (one (cSamp t) xs σ)) (K : KC) : run (r9 t h) 2 10 [] [] K =
  ((trkS (oneG t.h) (oneG t.g) (kindG t) (ptsG t.lx t.ly) (railG t) (gateG t)) ∧ ((smallC t.nr (railG t)) ∧ (((encBy t).length ≤ 1000000000) ∧ (Br ((rightV t).fst != 0) (∀ (t396 : Trk), ∀ (e395 : Int), ∀ (a394 : Int), ∀ (_ : IsD [] t396 e395 a394), ∀ (t392 : Trk), ∀ (e391 : Int), ∀ (a390 : Int), ∀ (_ : IsD [] t392 e391 a390), Br ((rightV t).fst == 0) (Br (e395 == 0) ((trkS (oneG t396.h) (oneG t396.g) (kindG t396) (ptsG t396.lx t396.ly) (railG t396) (gateG t396)) ∧ ((trkS (oneG t.h) (oneG t.g) (kindG t) (ptsG t.lx t.ly) (railG t) (gateG t)) ∧ ((sameT t396 t) ∧ (Br (e391 == 20) (K (SV.bool (a390 == 0)) [] []) (K (SV.bool false) [] []))))) (K (SV.bool false) [] [])) (K (SV.bool false) [] [])) ((bytesG (encBy t).length (bG (encBy t))) ∧ (((encBy t).length ≤ 1000000) ∧ (∀ (t394 : Trk), ∀ (e393 : Int), ∀ (a392 : Int), ∀ (_ : IsD (rowB (encBy t).length (bG (encBy t))) t394 e393 a392), ∀ (t390 : Trk), ∀ (e389 : Int), ∀ (a388 : Int), ∀ (_ : IsD [] t390 e389 a388), Br (e393 == 0) ((trkS (oneG t394.h) (oneG t394.g) (kindG t394) (ptsG t394.lx t394.ly) (railG t394) (gateG t394)) ∧ ((trkS (oneG t.h) (oneG t.g) (kindG t) (ptsG t.lx t.ly) (railG t) (gateG t)) ∧ ((sameT t394 t) ∧ (Br (e389 == 20) (K (SV.bool (a388 == 0)) [] []) (K (SV.bool false) [] []))))) (K (SV.bool false) [] [])))))))) := by kernel_rfl
theorem enc_trkB (t : Trk) : encBy t = trkB t := rfl
theorem samp_in : trkIn sampT.trk where
  cell := ⟨by decide, by decide⟩
  corner := ⟨⟨by decide, by decide⟩, ⟨by decide, by decide⟩⟩
  h := by decide +kernel
  k := by decide +kernel
  l := by decide +kernel
  r := by decide +kernel
  g := by decide +kernel
  s := ⟨⟨by decide, by decide⟩, ⟨by decide, by decide⟩⟩
  head := ⟨by decide, by decide⟩
theorem dec_nil : decO [] = (TL.zero, 20, 0) := by kernel_rfl
theorem samp_back : decO (encBy sampT.trk) = (sampT, 0, 0) := by
  rw [enc_trkB, dec_back (by rw [samp_right]) (by rw [toTL_trk, samp_right]) samp_in, toTL_trk]
noncomputable abbrev r9s : Know Tryz.prog := r9 sampT.trk samp_sat
theorem awake15_ok : CallOK Tryz.prog 10 [] [] (.bool true) [] [] :=
  run_ok r9s 2 fun _ _ K hK => by
    rw [awake15_nf, rowB_bG rfl, samp_right]
    refine ⟨trkS_of _, ⟨by decide, by decide +kernel⟩, by decide +kernel, bytes_bG rfl, by decide +kernel, ?_⟩
    rintro u e a ⟨tl, hd, rfl⟩
    rw [samp_back] at hd
    cases hd
    rintro u e a ⟨tl, hd, rfl⟩
    rw [dec_nil] at hd
    cases hd
    exact ⟨trkS_of _, trkS_of _, sameT_refl sampT.trk, hK⟩
def cAwake15 : List SV → List (Option SB) → Out
  | [], [] => some (.bool true, [], [])
  | _, _ => none
def zTL (b0 b1 b2 b3 b4 b5 b6 b7 b8 b9 : Int) : TL := ⟨b0, b1, b2, b3, (b4, b5), [], [], [], [], [], [], (b6, b7), b8, b9⟩
theorem same_z {t : Trk} {b0 b1 b2 b3 b4 b5 b6 b7 b8 b9 : Int} (h : sameT t (zTL b0 b1 b2 b3 b4 b5 b6 b7 b8 b9).trk) : CallOK Tryz.prog 13 [.agg (trkC t), .agg [.int .i64 b0, .int .i64 b1, .int .i64 b2, .int .i64 b3, .int .i64 b4, .int .i64 b5, .nils, .nils, .nils, .nils, .nils, .nils, .int .i64 b6, .int .i64 b7, .int .u32 b8, .int .i64 b9]] [] (.bool true) [] [] :=
  callOK_args (fun ρ T w l hl => by
    obtain ⟨x, r, e, hx, y, r2, e2, ⟨a, rfl, hy⟩, hr⟩ := hl
    refine ⟨x, r, e, hx, _, r2, e2, ⟨a, rfl, ?_⟩, hr⟩
    obtain ⟨v1, l1, z1, q1, v2, l2, z2, q2, v3, l3, z3, q3, v4, l4, z4, q4, v5, l5, z5, q5, v6, l6, z6, q6, v7, l7, z7, q7, v8, l8, z8, q8, v9, l9, z9, q9, v10, l10, z10, q10, v11, l11, z11, q11, v12, l12, z12, q12, q13⟩ := hy
    exact ⟨v1, l1, z1, q1, v2, l2, z2, q2, v3, l3, z3, q3, v4, l4, z4, q4, v5, l5, z5, q5, v6, l6, z6, q6, v7, l7, z7, nils_ro q7, v8, l8, z8, nils_ro q8, v9, l9, z9, nils_ro q9, v10, l10, z10, nils_ro q10, v11, l11, z11, nils_ro q11, v12, l12, z12, nils_ro q12, q13⟩) (same_ok h)
def cSameZ : List SV → List (Option SB) → KC → Prop
  | [.agg [.int .i64 a0, .int .i64 a1, .int .i64 a2, .int .i64 a3, .int .i64 a4, .int .i64 a5, .ro anh 1 ah, .ro ang 1 ag, .ro ank 3 akg, .ro anl 2 al, .ro anr 1 arl, .ro ant 5 agt, .int .i64 asx, .int .i64 asy, .int .u32 ahd, .int .i64 alp], .agg [.int .i64 b0, .int .i64 b1, .int .i64 b2, .int .i64 b3, .int .i64 b4, .int .i64 b5, .nils, .nils, .nils, .nils, .nils, .nils, .int .i64 b6, .int .i64 b7, .int .u32 b8, .int .i64 b9]], [], K => trkS ah ag akg al arl agt ∧ sameT (trkOf a0 a1 a2 a3 a4 a5 anh ah ang ag ank akg anl al anr arl ant agt asx asy ahd alp) (zTL b0 b1 b2 b3 b4 b5 b6 b7 b8 b9).trk ∧ K (.bool true) [] []
  | xs, σ, K => cSame2 xs σ K
theorem sameZ_sat (xs : List SV) (σ : List (Option SB)) : Sat Tryz.prog 13 xs σ (cSameZ xs σ) := by
  intro K hK
  unfold cSameZ at hK
  split at hK
  · obtain ⟨h1, h2, hK⟩ := hK
    refine ⟨_, _, _, hK, ?_⟩
    rw [trkC_of h1]
    exact same_z h2
  · exact same_sat _ _ K hK
noncomputable def ra : Know Tryz.prog := ((r8).add 10 (one cAwake15) (one_sat fun xs σ v σ' d h => by
    unfold cAwake15 at h; split at h <;> cases h; first | exact awake15_ok | exact awake15_ok _ | exact awake15_ok _ _ | exact awake15_ok _ _ _ | exact awake15_ok _ _ _ _ | exact awake15_ok _ _ _ _ _ | exact awake15_ok _ _ _ _ _ _ | exact awake15_ok _ _ _ _ _ _ _ | exact awake15_ok _ _ _ _ _ _ _ _ | exact awake15_ok _ _ _ _ _ _ _ _ _ | exact awake15_ok _ _ _ _ _ _ _ _ _ _ | exact awake15_ok _ _ _ _ _ _ _ _ _ _ _)).add 13 cSameZ sameZ_sat
theorem bytes_args (V : Val) : argsSV tab.tt 8 0 [36] V = [.ro ((V.sub 0).len []) 1 (fun i => [.int .u8 (((V.sub 0).sub i).int [])])] := by kernel_rfl
end Go.Proofs.YtbedljhbakdghaaGreatDoor
