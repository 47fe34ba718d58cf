import Derived.Test.YtbedljhbakdghaaGreatDoorAs
import Derived.Test.YtbedljhbakdghaaGreatDoorPl
import Derived.Test.YtbedljhbakdghaaGreatDoorSeTrk
namespace Go.Proofs.YtbedljhbakdghaaGreatDoor
open Go.Se
set_option maxRecDepth 100000
theorem size1_nf (t : TypeId) (x m : Int) (K : KC) : run p4 2 162 [.int .i64 x, .ptr 0 0] [some (.cells t [.int .i64 m])] K =
  (Br (decide (x > m)) (K (SV.bool true) [some (SB.cells t [SV.int .i64 m])] []) (K (SV.bool (decide (x < IntKind.wrap IntKind.i64 (0 - m)))) [some (SB.cells t [SV.int .i64 m])] [])) := by kernel_rfl
theorem size1_ok (t : TypeId) (x m : Int) : CallOK Tryz.prog 162 [.int .i64 x, .ptr 0 0] [some (.cells t [.int .i64 m])] (.bool (sizeP m x)) [some (.cells t [.int .i64 m])] [] :=
  run_ok p4 2 fun _ _ K hK => by
    rw [size1_nf]; exact orQ hK
def cSize1 : List SV → List (Option SB) → Out
  | [.int .i64 x, .ptr 0 0], [some (.cells t [.int .i64 m])] => some (.bool (sizeP m x), [some (.cells t [.int .i64 m])], [])
  | _, _ => none
theorem none1_nf (a0 a1 a2 a3 a4 a5 : Int) (nh : Nat) (h : Nat → List SV) (ng : Nat) (g : Nat → List SV) (nk : Nat) (kg : Nat → List SV) (nl : Nat) (l : Nat → List SV) (nr : Nat) (rl : Nat → List SV) (nt : Nat) (gt : Nat → List SV) (sx sy hd lp : Int) (k : Int) (K : KC) : run p4 2 141 [.int .i64 k, .ptr 0 0] [some (.cells 34 [.int .i64 a0, .int .i64 a1, .int .i64 a2, .int .i64 a3, .int .i64 a4, .int .i64 a5, .ro nh 1 h, .ro ng 1 g, .ro nk 3 kg, .ro nl 2 l, .ro nr 1 rl, .ro nt 5 gt, .int .i64 sx, .int .i64 sy, .int .u32 hd, .int .i64 lp])] K =
  (Br (decide (k < 0)) (K (SV.bool true) [some (SB.cells 34 [SV.int .i64 a0, SV.int .i64 a1, SV.int .i64 a2, SV.int .i64 a3, SV.int .i64 a4, SV.int .i64 a5, SV.ro nh 1 h, SV.ro ng 1 g, SV.ro nk 3 kg, SV.ro nl 2 l, SV.ro nr 1 rl, SV.ro nt 5 gt, SV.int .i64 sx, SV.int .i64 sy, SV.int .u32 hd, SV.int .i64 lp])] []) (K (SV.bool (decide (k ≥ (↑nk : Int)))) [some (SB.cells 34 [SV.int .i64 a0, SV.int .i64 a1, SV.int .i64 a2, SV.int .i64 a3, SV.int .i64 a4, SV.int .i64 a5, SV.ro nh 1 h, SV.ro ng 1 g, SV.ro nk 3 kg, SV.ro nl 2 l, SV.ro nr 1 rl, SV.ro nt 5 gt, SV.int .i64 sx, SV.int .i64 sy, SV.int .u32 hd, SV.int .i64 lp])] [])) := by kernel_rfl
theorem none1_ok (a0 a1 a2 a3 a4 a5 : Int) (nh : Nat) (h : Nat → List SV) (ng : Nat) (g : Nat → List SV) (nk : Nat) (kg : Nat → List SV) (nl : Nat) (l : Nat → List SV) (nr : Nat) (rl : Nat → List SV) (nt : Nat) (gt : Nat → List SV) (sx sy hd lp : Int) (k : Int) : CallOK Tryz.prog 141 [.int .i64 k, .ptr 0 0] [some (.cells 34 [.int .i64 a0, .int .i64 a1, .int .i64 a2, .int .i64 a3, .int .i64 a4, .int .i64 a5, .ro nh 1 h, .ro ng 1 g, .ro nk 3 kg, .ro nl 2 l, .ro nr 1 rl, .ro nt 5 gt, .int .i64 sx, .int .i64 sy, .int .u32 hd, .int .i64 lp])] (.bool (noneP nk k)) [some (.cells 34 [.int .i64 a0, .int .i64 a1, .int .i64 a2, .int .i64 a3, .int .i64 a4, .int .i64 a5, .ro nh 1 h, .ro ng 1 g, .ro nk 3 kg, .ro nl 2 l, .ro nr 1 rl, .ro nt 5 gt, .int .i64 sx, .int .i64 sy, .int .u32 hd, .int .i64 lp])] [] :=
  run_ok p4 2 fun _ _ K hK => by
    rw [none1_nf]; exact orQ hK
def cNone1 : List SV → List (Option SB) → Out
  | [.int .i64 k, .ptr 0 0], [some (.cells 34 [.int .i64 a0, .int .i64 a1, .int .i64 a2, .int .i64 a3, .int .i64 a4, .int .i64 a5, .ro nh 1 h, .ro ng 1 g, .ro nk 3 kg, .ro nl 2 l, .ro nr 1 rl, .ro nt 5 gt, .int .i64 sx, .int .i64 sy, .int .u32 hd, .int .i64 lp])] =>
    some (.bool (noneP nk k), [some (.cells 34 [.int .i64 a0, .int .i64 a1, .int .i64 a2, .int .i64 a3, .int .i64 a4, .int .i64 a5, .ro nh 1 h, .ro ng 1 g, .ro nk 3 kg, .ro nl 2 l, .ro nr 1 rl, .ro nt 5 gt, .int .i64 sx, .int .i64 sy, .int .u32 hd, .int .i64 lp])], [])
  | _, _ => none
theorem none1_sat (xs : List SV) (σ : List (Option SB)) : Sat Tryz.prog 141 xs σ (one cNone1 xs σ) :=
  one_sat (fun xs σ v σ' d h => by
    unfold cNone1 at h; split at h <;> cases h; apply none1_ok) xs σ
theorem odd1_nf (x y : Int) (o : Bool) (K : KC) : run p4 2 142 [.agg [.int .i64 x, .int .i64 y, .bool o]] [] K =
  (Br (decide ((bif false then if y > x then y else x else if y < x then y else x) < 0)) (K (SV.bool true) [] []) (Br (decide (x > 8589934592)) (K (SV.bool true) [] []) (K (SV.bool (decide (y > 4294967296))) [] []))) := by kernel_rfl
theorem odd1_ok (x y : Int) (o : Bool) : CallOK Tryz.prog 142 [.agg [.int .i64 x, .int .i64 y, .bool o]] [] (.bool (oddP x y)) [] [] :=
  run_ok p4 2 fun _ _ K hK => by
    rw [odd1_nf]
    simp only [Br_bool]
    refine finB hK ?_
    unfold oddP; simp only [cond_true, cond_false]; grind
def cOdd1 : List SV → List (Option SB) → Out
  | [.agg [.int .i64 x, .int .i64 y, .bool _]], [] => some (.bool (oddP x y), [], [])
  | _, _ => none
theorem toff_nf (x y : Int) (K : KC) : run p4 2 125 [.agg [.int .i64 x, .int .i64 y]] [] K =
  (Br (decide ((bif true then if y > x then y else x else if y < x then y else x) > 140737488355328)) (K (SV.bool true) [] []) (K (SV.bool (decide ((bif false then if y > x then y else x else if y < x then y else x) < -140737488355328))) [] [])) := by kernel_rfl
theorem toff_ok (x y : Int) : CallOK Tryz.prog 125 [.agg [.int .i64 x, .int .i64 y]] [] (.bool (offP x y)) [] [] :=
  run_ok p4 2 fun _ _ K hK => by
    rw [toff_nf]; exact orQ hK
theorem sfar_nf (x y : Int) (K : KC) : run p4 2 147 [.agg [.int .i64 x, .int .i64 y]] [] K =
  (Br (decide ((bif true then if y > x then y else x else if y < x then y else x) > 281474976710656)) (K (SV.bool true) [] []) (K (SV.bool (decide ((bif false then if y > x then y else x else if y < x then y else x) < -281474976710656))) [] [])) := by kernel_rfl
theorem sfar_ok (x y : Int) : CallOK Tryz.prog 147 [.agg [.int .i64 x, .int .i64 y]] [] (.bool (farB x y)) [] [] :=
  run_ok p4 2 fun _ _ K hK => by
    rw [sfar_nf]; exact orQ hK
def cTOff : List SV → List (Option SB) → Out
  | [.agg [.int .i64 x, .int .i64 y]], [] => some (.bool (offP x y), [], [])
  | _, _ => none
def cSFar : List SV → List (Option SB) → Out
  | [.agg [.int .i64 x, .int .i64 y]], [] => some (.bool (farB x y), [], [])
  | _, _ => none
theorem counted_nf (t : Trk) (K : KC) : run p4 2 138 [.agg (trkC t)] [] K =
  (Br (decide (1 ≤ t.cols)) (Br (!decide (t.cols ≤ 64)) (K (SV.bool false) [] []) (Br (decide (1 ≤ t.rows)) (Br (!decide (t.rows ≤ 64)) (K (SV.bool false) [] []) (Br (decide ((↑t.nk : Int) < 1)) (K (SV.bool false) [] []) (Br (decide ((↑t.nk : Int) > 8)) (K (SV.bool false) [] []) (Br ((↑t.nh : Int) == IntKind.wrap IntKind.i64 (IntKind.wrap IntKind.i64 (t.cols + 1) * IntKind.wrap IntKind.i64 (t.rows + 1))) (K (SV.bool ((↑t.ng : Int) == IntKind.wrap IntKind.i64 (t.cols * t.rows))) [] []) (K (SV.bool false) [] []))))) (K (SV.bool false) [] []))) (K (SV.bool false) [] [])) := by kernel_rfl
theorem counted_ok (t : Trk) : CallOK Tryz.prog 138 [.agg (trkC t)] [] (.bool (countedB t.cols t.rows t.nh t.ng t.nk)) [] [] :=
  run_ok p4 2 fun _ _ K hK => by
    rw [counted_nf]
    simp only [Br_bool]
    refine finB hK ?_
    unfold countedB; grind
noncomputable def p5 : Know Tryz.prog := (((((p4).add 162 (one cSize1) (one_sat fun xs σ v σ' d h => by
    unfold cSize1 at h; split at h <;> cases h; first | exact size1_ok | exact size1_ok _ | exact size1_ok _ _ | exact size1_ok _ _ _ | exact size1_ok _ _ _ _ | exact size1_ok _ _ _ _ _ | exact size1_ok _ _ _ _ _ _ | exact size1_ok _ _ _ _ _ _ _ | exact size1_ok _ _ _ _ _ _ _ _ | exact size1_ok _ _ _ _ _ _ _ _ _ | exact size1_ok _ _ _ _ _ _ _ _ _ _ | exact size1_ok _ _ _ _ _ _ _ _ _ _ _)).add 141 (one cNone1) none1_sat).add 142 (one cOdd1) (one_sat fun xs σ v σ' d h => by
    unfold cOdd1 at h; split at h <;> cases h; first | exact odd1_ok | exact odd1_ok _ | exact odd1_ok _ _ | exact odd1_ok _ _ _ | exact odd1_ok _ _ _ _ | exact odd1_ok _ _ _ _ _ | exact odd1_ok _ _ _ _ _ _ | exact odd1_ok _ _ _ _ _ _ _ | exact odd1_ok _ _ _ _ _ _ _ _ | exact odd1_ok _ _ _ _ _ _ _ _ _ | exact odd1_ok _ _ _ _ _ _ _ _ _ _ | exact odd1_ok _ _ _ _ _ _ _ _ _ _ _)).add 125 (one cTOff) (one_sat fun xs σ v σ' d h => by
    unfold cTOff at h; split at h <;> cases h; first | exact toff_ok | exact toff_ok _ | exact toff_ok _ _ | exact toff_ok _ _ _ | exact toff_ok _ _ _ _ | exact toff_ok _ _ _ _ _ | exact toff_ok _ _ _ _ _ _ | exact toff_ok _ _ _ _ _ _ _ | exact toff_ok _ _ _ _ _ _ _ _ | exact toff_ok _ _ _ _ _ _ _ _ _ | exact toff_ok _ _ _ _ _ _ _ _ _ _ | exact toff_ok _ _ _ _ _ _ _ _ _ _ _)).add 147 (one cSFar) (one_sat fun xs σ v σ' d h => by
    unfold cSFar at h; split at h <;> cases h; first | exact sfar_ok | exact sfar_ok _ | exact sfar_ok _ _ | exact sfar_ok _ _ _ | exact sfar_ok _ _ _ _ | exact sfar_ok _ _ _ _ _ | exact sfar_ok _ _ _ _ _ _ | exact sfar_ok _ _ _ _ _ _ _ | exact sfar_ok _ _ _ _ _ _ _ _ | exact sfar_ok _ _ _ _ _ _ _ _ _ | exact sfar_ok _ _ _ _ _ _ _ _ _ _ | exact sfar_ok _ _ _ _ _ _ _ _ _ _ _)
end Go.Proofs.YtbedljhbakdghaaGreatDoor

namespace Go.Proofs.YtbedljhbakdghaaGreatDoor
open Go.Se
set_option maxRecDepth 100000
def ixsR : List (Nat × Keep) := [(0, ⟨[4, 0, 1, 7, 8], [0], [], 1, []⟩)]
def ixsS (t : TypeId) (m : Int) (X : Nat → Int) (n : Nat) (r i : Int) : St := ⟨[(4, .int .i64 r), (0, .ro n 1 (oneG X)), (1, .fn (.func 162) [] [.ptr 0 0]), (7, .int .i64 n), (8, .int .i64 i)], [(0, some (.cells t [.int .i64 m]))], 1, [], 19⟩
theorem ixs_entry (K : KC) (t : TypeId) (m : Int) (X : Nat → Int) (n : Nat) : runL ixsR (fun _ => 0) p5 2 175 [.ro n 1 (oneG X), .fn (.func 162) [] [.ptr 0 0]] [some (.cells t [.int .i64 m])] K =
    ∃ k, loopE (envL ixsR (fun _ => 0) p5 1) (keepW ixsR 1) Tryz.f175 [1, 0, 1, 0] 0 1 K k (ixsS t m X n 0 0) := by kernel_rfl
theorem ixs_round (K : Ex → St → Prop) (t : TypeId) (m : Int) (X : Nat → Int) (n i : Nat) : roundE (envL ixsR (fun _ => 0) p5 1) (keepW ixsR 1) Tryz.f175 [1, 0, 1, 0] 0 K (ixsS t m X n 0 i) =
    Br (decide ((i : Int) < n)) (If (decide (0 ≤ (i : Int)) && decide ((i : Int) < n)) (Br (sizeP m (X i)) (K .ret (ixsS t m X n i i)) (K .normal (ixsS t m X n 0 (IntKind.i64.wrap (i + 1)))))) (K (.exit 0) (ixsS t m X n 0 i)) := by kernel_rfl
theorem ixs_ret (K : KC) (t : TypeId) (m : Int) (X : Nat → Int) (n : Nat) (r i : Int) : afterE (envL ixsR (fun _ => 0) p5 1) (keepW ixsR 1) Tryz.f175 [1, 0, 1, 0] 1 K .ret (ixsS t m X n r i) = K (.int .i64 r) [some (.cells t [.int .i64 m])] [] := by kernel_rfl
theorem ixs_after (K : KC) (t : TypeId) (m : Int) (X : Nat → Int) (n : Nat) (i : Int) : afterE (envL ixsR (fun _ => 0) p5 1) (keepW ixsR 1) Tryz.f175 [1, 0, 1, 0] 1 K (.exit 0) (ixsS t m X n 0 i) = K (.int .i64 (-1)) [some (.cells t [.int .i64 m])] [] := by kernel_rfl
theorem ixs_ok (t : TypeId) (m : Int) (X : Nat → Int) (n : Nat) : CallOK Tryz.prog 175 [.ro n 1 (oneG X), .fn (.func 162) [] [.ptr 0 0]] [some (.cells t [.int .i64 m])] (.int .i64 (fstB (fun i => sizeP m (X i)) n 0)) [some (.cells t [.int .i64 m])] [] :=
  runL_ok ixsR (fun _ => 0) p5 2 (fun _ h => nomatch h) fun ⟨⟨hl, _⟩, _⟩ _ K hK => by
    rw [ixs_entry]
    exact index_loop (ixsS t m X n) n hl _ (fun K i => ixs_round K t m X n i) (ixs_ret K t m X n) (ixs_after K t m X n) (hK [] fun _ h => nomatch h)
def ixnR : List (Nat × Keep) := [(0, ⟨[4, 0, 1, 7, 8], [0], [], 1, []⟩)]
def ixnS (a0 a1 a2 a3 a4 a5 : Int) (nh : Nat) (h : Nat → List SV) (ng : Nat) (g : Nat → List SV) (nk : Nat) (kg : Nat → List SV) (nl : Nat) (l : Nat → List SV) (nr : Nat) (rl : Nat → List SV) (nt : Nat) (gt : Nat → List SV) (sx sy hd lp : Int) (X : Nat → Int) (n : Nat) (r i : Int) : St := ⟨[(4, .int .i64 r), (0, .ro n 1 (oneG X)), (1, .fn (.func 141) [] [.ptr 0 0]), (7, .int .i64 n), (8, .int .i64 i)], [(0, some (.cells 34 [.int .i64 a0, .int .i64 a1, .int .i64 a2, .int .i64 a3, .int .i64 a4, .int .i64 a5, .ro nh 1 h, .ro ng 1 g, .ro nk 3 kg, .ro nl 2 l, .ro nr 1 rl, .ro nt 5 gt, .int .i64 sx, .int .i64 sy, .int .u32 hd, .int .i64 lp]))], 1, [], 19⟩
theorem ixn_entry (K : KC) (a0 a1 a2 a3 a4 a5 : Int) (nh : Nat) (h : Nat → List SV) (ng : Nat) (g : Nat → List SV) (nk : Nat) (kg : Nat → List SV) (nl : Nat) (l : Nat → List SV) (nr : Nat) (rl : Nat → List SV) (nt : Nat) (gt : Nat → List SV) (sx sy hd lp : Int) (X : Nat → Int) (n : Nat) : runL ixnR (fun _ => 0) p5 2 163 [.ro n 1 (oneG X), .fn (.func 141) [] [.ptr 0 0]] [some (.cells 34 [.int .i64 a0, .int .i64 a1, .int .i64 a2, .int .i64 a3, .int .i64 a4, .int .i64 a5, .ro nh 1 h, .ro ng 1 g, .ro nk 3 kg, .ro nl 2 l, .ro nr 1 rl, .ro nt 5 gt, .int .i64 sx, .int .i64 sy, .int .u32 hd, .int .i64 lp])] K =
    ∃ k, loopE (envL ixnR (fun _ => 0) p5 1) (keepW ixnR 1) Tryz.f163 [1, 0, 1, 0] 0 1 K k (ixnS a0 a1 a2 a3 a4 a5 nh h ng g nk kg nl l nr rl nt gt sx sy hd lp X n 0 0) := by kernel_rfl
theorem ixn_round (K : Ex → St → Prop) (a0 a1 a2 a3 a4 a5 : Int) (nh : Nat) (h : Nat → List SV) (ng : Nat) (g : Nat → List SV) (nk : Nat) (kg : Nat → List SV) (nl : Nat) (l : Nat → List SV) (nr : Nat) (rl : Nat → List SV) (nt : Nat) (gt : Nat → List SV) (sx sy hd lp : Int) (X : Nat → Int) (n i : Nat) : roundE (envL ixnR (fun _ => 0) p5 1) (keepW ixnR 1) Tryz.f163 [1, 0, 1, 0] 0 K (ixnS a0 a1 a2 a3 a4 a5 nh h ng g nk kg nl l nr rl nt gt sx sy hd lp X n 0 i) =
    Br (decide ((i : Int) < n)) (If (decide (0 ≤ (i : Int)) && decide ((i : Int) < n)) (Br (noneP nk (X i)) (K .ret (ixnS a0 a1 a2 a3 a4 a5 nh h ng g nk kg nl l nr rl nt gt sx sy hd lp X n i i)) (K .normal (ixnS a0 a1 a2 a3 a4 a5 nh h ng g nk kg nl l nr rl nt gt sx sy hd lp X n 0 (IntKind.i64.wrap (i + 1)))))) (K (.exit 0) (ixnS a0 a1 a2 a3 a4 a5 nh h ng g nk kg nl l nr rl nt gt sx sy hd lp X n 0 i)) := by kernel_rfl
theorem ixn_ret (K : KC) (a0 a1 a2 a3 a4 a5 : Int) (nh : Nat) (h : Nat → List SV) (ng : Nat) (g : Nat → List SV) (nk : Nat) (kg : Nat → List SV) (nl : Nat) (l : Nat → List SV) (nr : Nat) (rl : Nat → List SV) (nt : Nat) (gt : Nat → List SV) (sx sy hd lp : Int) (X : Nat → Int) (n : Nat) (r i : Int) : afterE (envL ixnR (fun _ => 0) p5 1) (keepW ixnR 1) Tryz.f163 [1, 0, 1, 0] 1 K .ret (ixnS a0 a1 a2 a3 a4 a5 nh h ng g nk kg nl l nr rl nt gt sx sy hd lp X n r i) = K (.int .i64 r) [some (.cells 34 [.int .i64 a0, .int .i64 a1, .int .i64 a2, .int .i64 a3, .int .i64 a4, .int .i64 a5, .ro nh 1 h, .ro ng 1 g, .ro nk 3 kg, .ro nl 2 l, .ro nr 1 rl, .ro nt 5 gt, .int .i64 sx, .int .i64 sy, .int .u32 hd, .int .i64 lp])] [] := by kernel_rfl
theorem ixn_after (K : KC) (a0 a1 a2 a3 a4 a5 : Int) (nh : Nat) (h : Nat → List SV) (ng : Nat) (g : Nat → List SV) (nk : Nat) (kg : Nat → List SV) (nl : Nat) (l : Nat → List SV) (nr : Nat) (rl : Nat → List SV) (nt : Nat) (gt : Nat → List SV) (sx sy hd lp : Int) (X : Nat → Int) (n : Nat) (i : Int) : afterE (envL ixnR (fun _ => 0) p5 1) (keepW ixnR 1) Tryz.f163 [1, 0, 1, 0] 1 K (.exit 0) (ixnS a0 a1 a2 a3 a4 a5 nh h ng g nk kg nl l nr rl nt gt sx sy hd lp X n 0 i) = K (.int .i64 (-1)) [some (.cells 34 [.int .i64 a0, .int .i64 a1, .int .i64 a2, .int .i64 a3, .int .i64 a4, .int .i64 a5, .ro nh 1 h, .ro ng 1 g, .ro nk 3 kg, .ro nl 2 l, .ro nr 1 rl, .ro nt 5 gt, .int .i64 sx, .int .i64 sy, .int .u32 hd, .int .i64 lp])] [] := by kernel_rfl
theorem ixn_ok (a0 a1 a2 a3 a4 a5 : Int) (nh : Nat) (h : Nat → List SV) (ng : Nat) (g : Nat → List SV) (nk : Nat) (kg : Nat → List SV) (nl : Nat) (l : Nat → List SV) (nr : Nat) (rl : Nat → List SV) (nt : Nat) (gt : Nat → List SV) (sx sy hd lp : Int) (X : Nat → Int) (n : Nat) : CallOK Tryz.prog 163 [.ro n 1 (oneG X), .fn (.func 141) [] [.ptr 0 0]] [some (.cells 34 [.int .i64 a0, .int .i64 a1, .int .i64 a2, .int .i64 a3, .int .i64 a4, .int .i64 a5, .ro nh 1 h, .ro ng 1 g, .ro nk 3 kg, .ro nl 2 l, .ro nr 1 rl, .ro nt 5 gt, .int .i64 sx, .int .i64 sy, .int .u32 hd, .int .i64 lp])] (.int .i64 (fstB (fun i => noneP nk (X i)) n 0)) [some (.cells 34 [.int .i64 a0, .int .i64 a1, .int .i64 a2, .int .i64 a3, .int .i64 a4, .int .i64 a5, .ro nh 1 h, .ro ng 1 g, .ro nk 3 kg, .ro nl 2 l, .ro nr 1 rl, .ro nt 5 gt, .int .i64 sx, .int .i64 sy, .int .u32 hd, .int .i64 lp])] [] :=
  runL_ok ixnR (fun _ => 0) p5 2 (fun _ h => nomatch h) fun ⟨⟨hl, _⟩, _⟩ _ K hK => by
    rw [ixn_entry]
    exact index_loop (ixnS a0 a1 a2 a3 a4 a5 nh h ng g nk kg nl l nr rl nt gt sx sy hd lp X n) n hl _ (fun K i => ixn_round K a0 a1 a2 a3 a4 a5 nh h ng g nk kg nl l nr rl nt gt sx sy hd lp X n i) (ixn_ret K a0 a1 a2 a3 a4 a5 nh h ng g nk kg nl l nr rl nt gt sx sy hd lp X n) (ixn_after K a0 a1 a2 a3 a4 a5 nh h ng g nk kg nl l nr rl nt gt sx sy hd lp X n) (hK [] fun _ h => nomatch h)
def ixkR : List (Nat × Keep) := [(0, ⟨[4, 0, 1, 7, 8], [], [], 0, []⟩)]
def ixkS (X Y : Nat → Int) (O : Nat → Bool) (n : Nat) (r i : Int) : St := ⟨[(4, .int .i64 r), (0, .ro n 3 (kindF X Y O)), (1, .fn (.func 142) [] []), (7, .int .i64 n), (8, .int .i64 i)], [], 0, [], 19⟩
theorem ixk_entry (K : KC) (X Y : Nat → Int) (O : Nat → Bool) (n : Nat) : runL ixkR (fun _ => 0) p5 2 164 [.ro n 3 (kindF X Y O), .fn (.func 142) [] []] [] K =
    ∃ k, loopE (envL ixkR (fun _ => 0) p5 1) (keepW ixkR 0) Tryz.f164 [1, 0, 1, 0] 0 0 K k (ixkS X Y O n 0 0) := by kernel_rfl
theorem ixk_round (K : Ex → St → Prop) (X Y : Nat → Int) (O : Nat → Bool) (n i : Nat) : roundE (envL ixkR (fun _ => 0) p5 1) (keepW ixkR 0) Tryz.f164 [1, 0, 1, 0] 0 K (ixkS X Y O n 0 i) =
    Br (decide ((i : Int) < n)) (If (decide (0 ≤ (i : Int)) && decide ((i : Int) < n)) (Br (oddP (X i) (Y i)) (K .ret (ixkS X Y O n i i)) (K .normal (ixkS X Y O n 0 (IntKind.i64.wrap (i + 1)))))) (K (.exit 0) (ixkS X Y O n 0 i)) := by kernel_rfl
theorem ixk_ret (K : KC) (X Y : Nat → Int) (O : Nat → Bool) (n : Nat) (r i : Int) : afterE (envL ixkR (fun _ => 0) p5 1) (keepW ixkR 0) Tryz.f164 [1, 0, 1, 0] 0 K .ret (ixkS X Y O n r i) = K (.int .i64 r) [] [] := by kernel_rfl
theorem ixk_after (K : KC) (X Y : Nat → Int) (O : Nat → Bool) (n : Nat) (i : Int) : afterE (envL ixkR (fun _ => 0) p5 1) (keepW ixkR 0) Tryz.f164 [1, 0, 1, 0] 0 K (.exit 0) (ixkS X Y O n 0 i) = K (.int .i64 (-1)) [] [] := by kernel_rfl
theorem ixk_ok (X Y : Nat → Int) (O : Nat → Bool) (n : Nat) : CallOK Tryz.prog 164 [.ro n 3 (kindF X Y O), .fn (.func 142) [] []] [] (.int .i64 (fstB (fun i => oddP (X i) (Y i)) n 0)) [] [] :=
  runL_ok ixkR (fun _ => 0) p5 2 (fun _ h => nomatch h) fun ⟨⟨hl, _⟩, _⟩ _ K hK => by
    rw [ixk_entry]
    exact index_loop (ixkS X Y O n) n hl _ (fun K i => ixk_round K X Y O n i) (ixk_ret K X Y O n) (ixk_after K X Y O n) (hK [] fun _ h => nomatch h)
def ixoR : List (Nat × Keep) := [(0, ⟨[4, 0, 1, 7, 8], [], [], 0, []⟩)]
def ixoS (X Y : Nat → Int) (n : Nat) (r i : Int) : St := ⟨[(4, .int .i64 r), (0, .ro n 2 (farCells X Y)), (1, .fn (.func 125) [] []), (7, .int .i64 n), (8, .int .i64 i)], [], 0, [], 19⟩
theorem ixo_entry (K : KC) (X Y : Nat → Int) (n : Nat) : runL ixoR (fun _ => 0) p5 2 148 [.ro n 2 (farCells X Y), .fn (.func 125) [] []] [] K =
    ∃ k, loopE (envL ixoR (fun _ => 0) p5 1) (keepW ixoR 0) Tryz.f148 [1, 0, 1, 0] 0 0 K k (ixoS X Y n 0 0) := by kernel_rfl
theorem ixo_round (K : Ex → St → Prop) (X Y : Nat → Int) (n i : Nat) : roundE (envL ixoR (fun _ => 0) p5 1) (keepW ixoR 0) Tryz.f148 [1, 0, 1, 0] 0 K (ixoS X Y n 0 i) =
    Br (decide ((i : Int) < n)) (If (decide (0 ≤ (i : Int)) && decide ((i : Int) < n)) (Br (offP (X i) (Y i)) (K .ret (ixoS X Y n i i)) (K .normal (ixoS X Y n 0 (IntKind.i64.wrap (i + 1)))))) (K (.exit 0) (ixoS X Y n 0 i)) := by kernel_rfl
theorem ixo_ret (K : KC) (X Y : Nat → Int) (n : Nat) (r i : Int) : afterE (envL ixoR (fun _ => 0) p5 1) (keepW ixoR 0) Tryz.f148 [1, 0, 1, 0] 0 K .ret (ixoS X Y n r i) = K (.int .i64 r) [] [] := by kernel_rfl
theorem ixo_after (K : KC) (X Y : Nat → Int) (n : Nat) (i : Int) : afterE (envL ixoR (fun _ => 0) p5 1) (keepW ixoR 0) Tryz.f148 [1, 0, 1, 0] 0 K (.exit 0) (ixoS X Y n 0 i) = K (.int .i64 (-1)) [] [] := by kernel_rfl
theorem ixo_ok (X Y : Nat → Int) (n : Nat) : CallOK Tryz.prog 148 [.ro n 2 (farCells X Y), .fn (.func 125) [] []] [] (.int .i64 (fstB (fun i => offP (X i) (Y i)) n 0)) [] [] :=
  runL_ok ixoR (fun _ => 0) p5 2 (fun _ h => nomatch h) fun ⟨⟨hl, _⟩, _⟩ _ K hK => by
    rw [ixo_entry]
    exact index_loop (ixoS X Y n) n hl _ (fun K i => ixo_round K X Y n i) (ixo_ret K X Y n) (ixo_after K X Y n) (hK [] fun _ h => nomatch h)
def ixfR : List (Nat × Keep) := [(0, ⟨[4, 0, 1, 7, 8], [], [], 0, []⟩)]
def ixfS (X Y : Nat → Int) (n : Nat) (r i : Int) : St := ⟨[(4, .int .i64 r), (0, .ro n 2 (farCells X Y)), (1, .fn (.func 147) [] []), (7, .int .i64 n), (8, .int .i64 i)], [], 0, [], 19⟩
theorem ixf_entry (K : KC) (X Y : Nat → Int) (n : Nat) : runL ixfR (fun _ => 0) p5 2 148 [.ro n 2 (farCells X Y), .fn (.func 147) [] []] [] K =
    ∃ k, loopE (envL ixfR (fun _ => 0) p5 1) (keepW ixfR 0) Tryz.f148 [1, 0, 1, 0] 0 0 K k (ixfS X Y n 0 0) := by kernel_rfl
theorem ixf_round (K : Ex → St → Prop) (X Y : Nat → Int) (n i : Nat) : roundE (envL ixfR (fun _ => 0) p5 1) (keepW ixfR 0) Tryz.f148 [1, 0, 1, 0] 0 K (ixfS X Y n 0 i) =
    Br (decide ((i : Int) < n)) (If (decide (0 ≤ (i : Int)) && decide ((i : Int) < n)) (Br (farB (X i) (Y i)) (K .ret (ixfS X Y n i i)) (K .normal (ixfS X Y n 0 (IntKind.i64.wrap (i + 1)))))) (K (.exit 0) (ixfS X Y n 0 i)) := by kernel_rfl
theorem ixf_ret (K : KC) (X Y : Nat → Int) (n : Nat) (r i : Int) : afterE (envL ixfR (fun _ => 0) p5 1) (keepW ixfR 0) Tryz.f148 [1, 0, 1, 0] 0 K .ret (ixfS X Y n r i) = K (.int .i64 r) [] [] := by kernel_rfl
theorem ixf_after (K : KC) (X Y : Nat → Int) (n : Nat) (i : Int) : afterE (envL ixfR (fun _ => 0) p5 1) (keepW ixfR 0) Tryz.f148 [1, 0, 1, 0] 0 K (.exit 0) (ixfS X Y n 0 i) = K (.int .i64 (-1)) [] [] := by kernel_rfl
theorem ixf_ok (X Y : Nat → Int) (n : Nat) : CallOK Tryz.prog 148 [.ro n 2 (farCells X Y), .fn (.func 147) [] []] [] (.int .i64 (fstB (fun i => farB (X i) (Y i)) n 0)) [] [] :=
  runL_ok ixfR (fun _ => 0) p5 2 (fun _ h => nomatch h) fun ⟨⟨hl, _⟩, _⟩ _ K hK => by
    rw [ixf_entry]
    exact index_loop (ixfS X Y n) n hl _ (fun K i => ixf_round K X Y n i) (ixf_ret K X Y n) (ixf_after K X Y n) (hK [] fun _ h => nomatch h)
def cIxS : List SV → List (Option SB) → KC → Prop
  | [.ro n 1 g, .fn (.func 162) [] [.ptr 0 0]], [some (.cells t [.int .i64 m])], K => ones g ∧ K (.int .i64 (fstB (fun i => sizeP m (px (g i))) n 0)) [some (.cells t [.int .i64 m])] []
  | _, _, _ => False
theorem ixs_sat (xs : List SV) (σ : List (Option SB)) : Sat Tryz.prog 175 xs σ (cIxS xs σ) := by
  intro K hK
  unfold cIxS at hK
  split at hK
  · obtain ⟨hp, hK⟩ := hK
    refine ⟨_, _, _, hK, ?_⟩
    rw [ones_eq hp]; apply ixs_ok
  · exact hK.elim
def cIxN : List SV → List (Option SB) → KC → Prop
  | [.ro n 1 gg, .fn (.func 141) [] [.ptr 0 0]], [some (.cells 34 [.int .i64 a0, .int .i64 a1, .int .i64 a2, .int .i64 a3, .int .i64 a4, .int .i64 a5, .ro nh 1 h, .ro ng 1 g, .ro nk 3 kg, .ro nl 2 l, .ro nr 1 rl, .ro nt 5 gt, .int .i64 sx, .int .i64 sy, .int .u32 hd, .int .i64 lp])], K =>
    ones gg ∧ K (.int .i64 (fstB (fun i => noneP nk (px (gg i))) n 0)) [some (.cells 34 [.int .i64 a0, .int .i64 a1, .int .i64 a2, .int .i64 a3, .int .i64 a4, .int .i64 a5, .ro nh 1 h, .ro ng 1 g, .ro nk 3 kg, .ro nl 2 l, .ro nr 1 rl, .ro nt 5 gt, .int .i64 sx, .int .i64 sy, .int .u32 hd, .int .i64 lp])] []
  | _, _, _ => False
theorem ixn_sat (xs : List SV) (σ : List (Option SB)) : Sat Tryz.prog 163 xs σ (cIxN xs σ) := by
  intro K hK
  unfold cIxN at hK
  split at hK
  · obtain ⟨hp, hK⟩ := hK
    refine ⟨_, _, _, hK, ?_⟩
    rw [ones_eq hp]; apply ixn_ok
  · exact hK.elim
def cIxK : List SV → List (Option SB) → KC → Prop
  | [.ro n 3 g, .fn (.func 142) [] []], [], K => kindsG g ∧ K (.int .i64 (fstB (fun i => oddP (px (g i)) (py (g i))) n 0)) [] []
  | _, _, _ => False
theorem ixk_sat (xs : List SV) (σ : List (Option SB)) : Sat Tryz.prog 164 xs σ (cIxK xs σ) := by
  intro K hK
  unfold cIxK at hK
  split at hK
  · obtain ⟨hp, hK⟩ := hK
    refine ⟨_, _, _, hK, ?_⟩
    rw [kinds_eq hp]; apply ixk_ok
  · exact hK.elim
def cIxV : List SV → List (Option SB) → KC → Prop
  | [.ro n 2 g, .fn (.func 125) [] []], [], K => pts g ∧ K (.int .i64 (fstB (fun i => offP (px (g i)) (py (g i))) n 0)) [] []
  | [.ro n 2 g, .fn (.func 147) [] []], [], K => pts g ∧ K (.int .i64 (fstB (fun i => farB (px (g i)) (py (g i))) n 0)) [] []
  | _, _, _ => False
theorem ixv_sat (xs : List SV) (σ : List (Option SB)) : Sat Tryz.prog 148 xs σ (cIxV xs σ) := by
  intro K hK
  unfold cIxV at hK
  split at hK
  · obtain ⟨hp, hK⟩ := hK
    refine ⟨_, _, _, hK, ?_⟩
    rw [pts_eq hp]; apply ixo_ok
  · obtain ⟨hp, hK⟩ := hK
    refine ⟨_, _, _, hK, ?_⟩
    rw [pts_eq hp]; apply ixf_ok
  · exact hK.elim
noncomputable def p6 : Know Tryz.prog := ((((p5).add 175 cIxS ixs_sat).add 163 cIxN ixn_sat).add 164 cIxK ixk_sat).add 148 cIxV ixv_sat
end Go.Proofs.YtbedljhbakdghaaGreatDoor

namespace Go.Proofs.YtbedljhbakdghaaGreatDoor
open Go.Se
set_option maxRecDepth 100000
theorem sizeR_nf (m : Int) (n : Nat) (X : Nat → Int) (K : KC) : run p6 3 143 [.int .i64 m, .ro n 1 (oneG X)] [] K =
  ((ones (oneG X)) ∧ (K (SV.bool !decide (fstB (fun (i : Nat) => sizeP m (px (oneG X i))) n 0 ≥ 0)) [] [])) := by kernel_rfl
theorem sizeA_nf (t : TypeId) (x m : Int) (K : KC) : runU 3 p5 5 143 [.int .i64 m, .arr 0 0 1 1] [some (.cells t [.int .i64 x])] K =
  (Br (sizeP m x) (K (SV.bool false) [some (SB.cells t [SV.int .i64 x])] []) (K (SV.bool true) [some (SB.cells t [SV.int .i64 x])] [])) := by kernel_rfl
theorem sizeB_nf (t : TypeId) (x y m : Int) (K : KC) : runU 4 p5 5 143 [.int .i64 m, .arr 0 0 2 2] [some (.cells t [.int .i64 x, .int .i64 y])] K =
  (Br (sizeP m x) (K (SV.bool false) [some (SB.cells t [SV.int .i64 x, SV.int .i64 y])] []) (Br (sizeP m y) (K (SV.bool false) [some (SB.cells t [SV.int .i64 x, SV.int .i64 y])] []) (K (SV.bool true) [some (SB.cells t [SV.int .i64 x, SV.int .i64 y])] []))) := by kernel_rfl
theorem sizeR_ok (m : Int) (n : Nat) (X : Nat → Int) : CallOK Tryz.prog 143 [.int .i64 m, .ro n 1 (oneG X)] [] (.bool (!anyB (fun i => sizeP m (X i)) n)) [] [] :=
  run_ok p6 3 fun _ _ K hK => by
    rw [sizeR_nf]; exact ⟨fun _ => rfl, hK⟩
theorem sizeA_ok (t : TypeId) (x m : Int) : CallOK Tryz.prog 143 [.int .i64 m, .arr 0 0 1 1] [some (.cells t [.int .i64 x])] (.bool (!sizeP m x)) [some (.cells t [.int .i64 x])] [] :=
  runU_ok 3 p5 5 fun _ _ K hK => by
    rw [sizeA_nf]; simp only [Br_bool]; refine finB hK ?_; cases sizeP m x <;> rfl
theorem sizeB_ok (t : TypeId) (x y m : Int) : CallOK Tryz.prog 143 [.int .i64 m, .arr 0 0 2 2] [some (.cells t [.int .i64 x, .int .i64 y])] (.bool (!(sizeP m x || sizeP m y))) [some (.cells t [.int .i64 x, .int .i64 y])] [] :=
  runU_ok 4 p5 5 fun _ _ K hK => by
    rw [sizeB_nf]; simp only [Br_bool]; refine finB hK ?_; cases sizeP m x <;> cases sizeP m y <;> rfl
def cSize : List SV → List (Option SB) → KC → Prop
  | [.int .i64 m, .ro n 1 g], [], K => ones g ∧ K (.bool (!anyB (fun i => sizeP m (px (g i))) n)) [] []
  | [.int .i64 m, .arr 0 0 1 1], [some (.cells t [.int .i64 x])], K => K (.bool (!sizeP m x)) [some (.cells t [.int .i64 x])] []
  | [.int .i64 m, .arr 0 0 2 2], [some (.cells t [.int .i64 x, .int .i64 y])], K => K (.bool (!(sizeP m x || sizeP m y))) [some (.cells t [.int .i64 x, .int .i64 y])] []
  | _, _, _ => False
theorem size_sat (xs : List SV) (σ : List (Option SB)) : Sat Tryz.prog 143 xs σ (cSize xs σ) := by
  intro K hK
  unfold cSize at hK
  split at hK
  · obtain ⟨hp, hK⟩ := hK
    refine ⟨_, _, _, hK, ?_⟩
    rw [ones_eq hp]; apply sizeR_ok
  · exact ⟨_, _, _, hK, sizeA_ok _ _ _⟩
  · exact ⟨_, _, _, hK, sizeB_ok _ _ _ _⟩
  · exact hK.elim
/-! ### Copies. -/
theorem cloneF_nf (n : Nat) (g : Nat → List SV) (K : KC) : run p5 2 139 [.ro n 1 g] [] K =
  (Br (decide (0 < n)) ((∀ (i : Nat), i < n → (g i).length = 1 ∧ (g i).all oneCell = true) ∧ (Br (true && (decide (n * 8 ≤ 1099511627776) && decide (n < 9223372036854775808))) (Br (decide (0 < n)) (K (SV.own 0 0 1 n) [some (SB.row 22 1 n g)] []) (K (SV.arr 0 0 0 0) [some (SB.cells 22 [])] [])) (False))) (False)) := by kernel_rfl
theorem cloneF_0 (K : KC) : run p5 2 139 [.nils] [] K =
  (K SV.nils [] []) := by kernel_rfl
theorem cloneF_1 (K : KC) : run p5 2 139 [.emp] [] K =
  (K (SV.arr 0 0 0 0) [some (SB.cells 22 [])] []) := by kernel_rfl
theorem cloneI_nf (n : Nat) (g : Nat → List SV) (K : KC) : run p5 2 140 [.ro n 1 g] [] K =
  (Br (decide (0 < n)) ((∀ (i : Nat), i < n → (g i).length = 1 ∧ (g i).all oneCell = true) ∧ (Br (true && (decide (n * 8 ≤ 1099511627776) && decide (n < 9223372036854775808))) (Br (decide (0 < n)) (K (SV.own 0 0 1 n) [some (SB.row 3 1 n g)] []) (K (SV.arr 0 0 0 0) [some (SB.cells 3 [])] [])) (False))) (False)) := by kernel_rfl
theorem cloneI_0 (K : KC) : run p5 2 140 [.nils] [] K =
  (K SV.nils [] []) := by kernel_rfl
theorem cloneI_1 (K : KC) : run p5 2 140 [.emp] [] K =
  (K (SV.arr 0 0 0 0) [some (SB.cells 3 [])] []) := by kernel_rfl
theorem cloneV_nf (n : Nat) (g : Nat → List SV) (K : KC) : run p5 2 127 [.ro n 2 g] [] K =
  (Br (decide (0 < n)) ((∀ (i : Nat), i < n → (g i).length = 2 ∧ (g i).all oneCell = true) ∧ (Br (true && (decide (n * 16 ≤ 1099511627776) && decide (n < 9223372036854775808))) (Br (decide (0 < n)) (K (SV.own 0 0 2 n) [some (SB.row 24 2 n g)] []) (K (SV.arr 0 0 0 0) [some (SB.cells 24 [])] [])) (False))) (False)) := by kernel_rfl
theorem ones_cells {g : Nat → List SV} (h : ones g) : ∀ i, (g i).length = 1 ∧ (g i).all oneCell = true := fun i => by rw [h i]; exact ⟨rfl, rfl⟩
theorem pts_cells {g : Nat → List SV} (h : pts g) : ∀ i, (g i).length = 2 ∧ (g i).all oneCell = true := fun i => by rw [h i]; exact ⟨rfl, rfl⟩
theorem cloneF_ok (n : Nat) (g : Nat → List SV) (hg : ones g) (hn : n ≤ 1000000) : CallOK Tryz.prog 139 [.ro n 1 g] [] (.ro n 1 g) [] [] :=
  callOK_clone (fun i _ => (ones_cells hg i).1) (fun h0 => run_ok p5 2 fun _ _ K hK => by
      rw [cloneF_nf]
      exact If.mk (decide_eq_true h0) ⟨fun i _ => ones_cells hg i, If.mk (by simp only [Bool.and_eq_true, decide_eq_true_eq, Bool.true_and]; omega) (Br.of (fun _ => hK) fun c => absurd h0 (of_decide_eq_false c))⟩)
    (run_ok p5 2 fun _ _ K hK => by rw [cloneF_0]; exact hK) (run_ok p5 2 fun _ _ K hK => by rw [cloneF_1]; exact hK)
theorem cloneI_ok (n : Nat) (g : Nat → List SV) (hg : ones g) (hn : n ≤ 1000000) : CallOK Tryz.prog 140 [.ro n 1 g] [] (.ro n 1 g) [] [] :=
  callOK_clone (fun i _ => (ones_cells hg i).1) (fun h0 => run_ok p5 2 fun _ _ K hK => by
      rw [cloneI_nf]
      exact If.mk (decide_eq_true h0) ⟨fun i _ => ones_cells hg i, If.mk (by simp only [Bool.and_eq_true, decide_eq_true_eq, Bool.true_and]; omega) (Br.of (fun _ => hK) fun c => absurd h0 (of_decide_eq_false c))⟩)
    (run_ok p5 2 fun _ _ K hK => by rw [cloneI_0]; exact hK) (run_ok p5 2 fun _ _ K hK => by rw [cloneI_1]; exact hK)
/-- A copy of one's own. -/
theorem cloneV_ok (n : Nat) (g : Nat → List SV) (hg : pts g) (h0 : 0 < n) (hn : n ≤ 1000000) : CallOK Tryz.prog 127 [.ro n 2 g] [] (.own 0 0 2 n) [some (.row 24 2 n g)] [] :=
  run_ok p5 2 fun _ _ K hK => by
    rw [cloneV_nf]
    exact If.mk (decide_eq_true h0) ⟨fun i _ => pts_cells hg i, If.mk (by simp only [Bool.and_eq_true, decide_eq_true_eq, Bool.true_and]; omega) (Br.of (fun _ => hK) fun c => absurd h0 (of_decide_eq_false c))⟩
def cCloneR : List SV → List (Option SB) → KC → Prop
  | [.ro n 1 g], [], K => ones g ∧ n ≤ 1000000 ∧ K (.ro n 1 g) [] []
  | _, _, _ => False
theorem cloneF_sat (xs : List SV) (σ : List (Option SB)) : Sat Tryz.prog 139 xs σ (cCloneR xs σ) := by
  intro K hK
  unfold cCloneR at hK
  split at hK
  · exact ⟨_, _, _, hK.2.2, cloneF_ok _ _ hK.1 hK.2.1⟩
  · exact hK.elim
theorem cloneI_sat (xs : List SV) (σ : List (Option SB)) : Sat Tryz.prog 140 xs σ (cCloneR xs σ) := by
  intro K hK
  unfold cCloneR at hK
  split at hK
  · exact ⟨_, _, _, hK.2.2, cloneI_ok _ _ hK.1 hK.2.1⟩
  · exact hK.elim
def cCloneV : List SV → List (Option SB) → KC → Prop
  | [.ro n 2 g], [], K => pts g ∧ (0 < n ∧ n ≤ 1000000) ∧ K (.own 0 0 2 n) [some (.row 24 2 n g)] []
  | _, _, _ => False
theorem cloneV_sat (xs : List SV) (σ : List (Option SB)) : Sat Tryz.prog 127 xs σ (cCloneV xs σ) := by
  intro K hK
  unfold cCloneV at hK
  split at hK
  · exact ⟨_, _, _, hK.2.2, cloneV_ok _ _ hK.1 hK.2.1.1 hK.2.1.2⟩
  · exact hK.elim
def cCounted : List SV → List (Option SB) → KC → Prop
  | [.agg [.int .i64 a0, .int .i64 a1, .int .i64 a2, .int .i64 a3, .int .i64 a4, .int .i64 a5, .ro nh 1 h, .ro ng 1 g, .ro nk 3 kg, .ro nl 2 l, .ro nr 1 rl, .ro nt 5 gt, .int .i64 sx, .int .i64 sy, .int .u32 hd, .int .i64 lp]], [], K => trkS h g kg l rl gt ∧ K (.bool (countedB a2 a3 nh ng nk)) [] []
  | _, _, _ => False
theorem counted_sat (xs : List SV) (σ : List (Option SB)) : Sat Tryz.prog 138 xs σ (cCounted xs σ) := by
  intro K hK
  unfold cCounted at hK
  split at hK
  · refine ⟨_, _, _, hK.2, ?_⟩
    rw [trkC_of hK.1]
    exact counted_ok _
  · exact hK.elim
noncomputable def p7 : Know Tryz.prog := (((((p6).add 143 cSize size_sat).add 139 cCloneR cloneF_sat).add 140 cCloneR cloneI_sat).add 127 cCloneV cloneV_sat).add 138 cCounted counted_sat
end Go.Proofs.YtbedljhbakdghaaGreatDoor

