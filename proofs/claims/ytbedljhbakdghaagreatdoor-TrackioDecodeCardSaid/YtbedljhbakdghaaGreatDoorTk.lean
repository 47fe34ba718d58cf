import Derived.Test.YtbedljhbakdghaaGreatDoorTj
namespace Go.Proofs.YtbedljhbakdghaaGreatDoor
open Go.Se
set_option maxRecDepth 100000
def rnR : List (Nat × Keep) := [(0, ⟨[3, 0, 2], [], [], 0, []⟩)]
def rnS (X Y : Nat → Int) (n : Nat) (i : Int) : St := ⟨[(3, .int .i64 i), (0, .ro n 2 (farCells X Y)), (2, .bool false)], [], 0, [], 40⟩
noncomputable abbrev rnE : Env := envL rnR (fun _ => 0) s2 1
noncomputable abbrev rnF : Func := Tryz.f104
theorem rn_entry (X Y : Nat → Int) (n : Nat) (K : KC) : runL rnR (fun _ => 0) s2 2 104 [.ro n 2 (farCells X Y)] [] K =
  (∃ q_, loopE rnE (keepW rnR 0) rnF [1, 0, 1, 0] 0 0 K q_ { tmps := [(3, SV.int .i64 0), (0, SV.ro n 2 (farCells X Y)), (2, SV.bool false)], store := [], nxt := 0, dirty := [], nt := 40 }) := by kernel_rfl
theorem rn_round (X Y : Nat → Int) (n i : Nat) (K : Ex → St → Prop) : roundE rnE (keepW rnR 0) rnF [1, 0, 1, 0] 0 K (rnS X Y n i) =
  (Br (decide ((↑i : Int) < (↑n : Int))) (Br (decide (0 ≤ (↑i : Int)) && decide ((↑i : Int) < (↑n : Int))) (Br (decide (X (↑i : Int).toNat > 281474976710656)) (K Ex.ret { tmps := [(3, SV.int .i64 (↑i : Int)), (0, SV.ro n 2 (farCells X Y)), (2, SV.bool false)], store := [], nxt := 0, dirty := [], nt := 40 }) (Br (decide (0 ≤ (↑i : Int)) && decide ((↑i : Int) < (↑n : Int))) (Br (decide (X (↑i : Int).toNat < -281474976710656)) (K Ex.ret { tmps := [(3, SV.int .i64 (↑i : Int)), (0, SV.ro n 2 (farCells X Y)), (2, SV.bool false)], store := [], nxt := 0, dirty := [], nt := 40 }) (Br (decide (0 ≤ (↑i : Int)) && decide ((↑i : Int) < (↑n : Int))) (Br (decide (Y (↑i : Int).toNat > 281474976710656)) (K Ex.ret { tmps := [(3, SV.int .i64 (↑i : Int)), (0, SV.ro n 2 (farCells X Y)), (2, SV.bool false)], store := [], nxt := 0, dirty := [], nt := 40 }) (Br (decide (0 ≤ (↑i : Int)) && decide ((↑i : Int) < (↑n : Int))) (Br (decide (Y (↑i : Int).toNat < -281474976710656)) (K Ex.ret { tmps := [(3, SV.int .i64 (↑i : Int)), (0, SV.ro n 2 (farCells X Y)), (2, SV.bool false)], store := [], nxt := 0, dirty := [], nt := 40 }) (K Ex.normal { tmps := [(3, SV.int .i64 (IntKind.i64.wrap ((↑i : Int) + 1))), (0, SV.ro n 2 (farCells X Y)), (2, SV.bool false)], store := [], nxt := 0, dirty := [], nt := 40 })) (False))) (False))) (False))) (False)) (K (Ex.exit 0) { tmps := [(3, SV.int .i64 (↑i : Int)), (0, SV.ro n 2 (farCells X Y)), (2, SV.bool false)], store := [], nxt := 0, dirty := [], nt := 40 })) := by kernel_rfl
theorem rn_ret (X Y : Nat → Int) (n : Nat) (i : Int) (K : KC) : afterE rnE (keepW rnR 0) rnF [1, 0, 1, 0] 0 K .ret (rnS X Y n i) =
  (K (SV.bool false) [] []) := by kernel_rfl
theorem rn_after (X Y : Nat → Int) (n : Nat) (i : Int) (K : KC) : afterE rnE (keepW rnR 0) rnF [1, 0, 1, 0] 0 K (.exit 0) (rnS X Y n i) =
  (K (SV.bool true) [] []) := by kernel_rfl
theorem rn3_nf (t : TypeId) (ax ay bx ey x y : Int) (K : KC) : runU 5 s2 2 104 [.arr 0 0 3 3] [some (.cells t [.int .i64 ax, .int .i64 ay, .int .i64 bx, .int .i64 ey, .int .i64 x, .int .i64 y])] K =
  (Br (decide (ax > 281474976710656)) (K (SV.bool false) [some (SB.cells t [SV.int .i64 ax, SV.int .i64 ay, SV.int .i64 bx, SV.int .i64 ey, SV.int .i64 x, SV.int .i64 y])] []) (Br (decide (ax < -281474976710656)) (K (SV.bool false) [some (SB.cells t [SV.int .i64 ax, SV.int .i64 ay, SV.int .i64 bx, SV.int .i64 ey, SV.int .i64 x, SV.int .i64 y])] []) (Br (decide (ay > 281474976710656)) (K (SV.bool false) [some (SB.cells t [SV.int .i64 ax, SV.int .i64 ay, SV.int .i64 bx, SV.int .i64 ey, SV.int .i64 x, SV.int .i64 y])] []) (Br (decide (ay < -281474976710656)) (K (SV.bool false) [some (SB.cells t [SV.int .i64 ax, SV.int .i64 ay, SV.int .i64 bx, SV.int .i64 ey, SV.int .i64 x, SV.int .i64 y])] []) (Br (decide (bx > 281474976710656)) (K (SV.bool false) [some (SB.cells t [SV.int .i64 ax, SV.int .i64 ay, SV.int .i64 bx, SV.int .i64 ey, SV.int .i64 x, SV.int .i64 y])] []) (Br (decide (bx < -281474976710656)) (K (SV.bool false) [some (SB.cells t [SV.int .i64 ax, SV.int .i64 ay, SV.int .i64 bx, SV.int .i64 ey, SV.int .i64 x, SV.int .i64 y])] []) (Br (decide (ey > 281474976710656)) (K (SV.bool false) [some (SB.cells t [SV.int .i64 ax, SV.int .i64 ay, SV.int .i64 bx, SV.int .i64 ey, SV.int .i64 x, SV.int .i64 y])] []) (Br (decide (ey < -281474976710656)) (K (SV.bool false) [some (SB.cells t [SV.int .i64 ax, SV.int .i64 ay, SV.int .i64 bx, SV.int .i64 ey, SV.int .i64 x, SV.int .i64 y])] []) (Br (decide (x > 281474976710656)) (K (SV.bool false) [some (SB.cells t [SV.int .i64 ax, SV.int .i64 ay, SV.int .i64 bx, SV.int .i64 ey, SV.int .i64 x, SV.int .i64 y])] []) (Br (decide (x < -281474976710656)) (K (SV.bool false) [some (SB.cells t [SV.int .i64 ax, SV.int .i64 ay, SV.int .i64 bx, SV.int .i64 ey, SV.int .i64 x, SV.int .i64 y])] []) (Br (decide (y > 281474976710656)) (K (SV.bool false) [some (SB.cells t [SV.int .i64 ax, SV.int .i64 ay, SV.int .i64 bx, SV.int .i64 ey, SV.int .i64 x, SV.int .i64 y])] []) (Br (decide (y < -281474976710656)) (K (SV.bool false) [some (SB.cells t [SV.int .i64 ax, SV.int .i64 ay, SV.int .i64 bx, SV.int .i64 ey, SV.int .i64 x, SV.int .i64 y])] []) (K (SV.bool true) [some (SB.cells t [SV.int .i64 ax, SV.int .i64 ay, SV.int .i64 bx, SV.int .i64 ey, SV.int .i64 x, SV.int .i64 y])] []))))))))))))) := by kernel_rfl
def roR : List (Nat × Keep) := [(0, ⟨[3, 0, 2], [], [], 0, []⟩)]
def roS (X Y : Nat → Int) (n : Nat) (r : Bool) (i : Int) : St := ⟨[(3, .int .i64 i), (0, .ro n 2 (farCells X Y)), (2, .bool r)], [], 0, [], 15⟩
noncomputable abbrev roE : Env := envL roR (fun _ => 0) s2 1
noncomputable abbrev roF : Func := Tryz.f78
theorem ro_entry (X Y : Nat → Int) (n : Nat) (K : KC) : runL roR (fun _ => 0) s2 2 78 [.ro n 2 (farCells X Y)] [] K =
  (∃ q_, loopE roE (keepW roR 0) roF [1, 0, 1, 0] 0 0 K q_ { tmps := [(3, SV.int .i64 0), (0, SV.ro n 2 (farCells X Y)), (2, SV.bool false)], store := [], nxt := 0, dirty := [], nt := 15 }) := by kernel_rfl
theorem ro_round (X Y : Nat → Int) (n i : Nat) (K : Ex → St → Prop) : roundE roE (keepW roR 0) roF [1, 0, 1, 0] 0 K (roS X Y n false i) =
  (Br (decide ((↑i : Int) < (↑n : Int))) (Br (decide (0 ≤ (↑i : Int)) && decide ((↑i : Int) < (↑n : Int))) (Br (offP (X (↑i : Int).toNat) (Y (↑i : Int).toNat)) (K Ex.ret { tmps := [(3, SV.int .i64 (↑i : Int)), (0, SV.ro n 2 (farCells X Y)), (2, SV.bool true)], store := [], nxt := 0, dirty := [], nt := 15 }) (K Ex.normal { tmps := [(3, SV.int .i64 (IntKind.i64.wrap ((↑i : Int) + 1))), (0, SV.ro n 2 (farCells X Y)), (2, SV.bool false)], store := [], nxt := 0, dirty := [], nt := 15 })) (False)) (K (Ex.exit 0) { tmps := [(3, SV.int .i64 (↑i : Int)), (0, SV.ro n 2 (farCells X Y)), (2, SV.bool false)], store := [], nxt := 0, dirty := [], nt := 15 })) := by kernel_rfl
theorem ro_ret (X Y : Nat → Int) (n : Nat) (r : Bool) (i : Int) (K : KC) : afterE roE (keepW roR 0) roF [1, 0, 1, 0] 0 K .ret (roS X Y n r i) =
  (K (SV.bool r) [] []) := by kernel_rfl
theorem ro_after (X Y : Nat → Int) (n : Nat) (r : Bool) (i : Int) (K : KC) : afterE roE (keepW roR 0) roF [1, 0, 1, 0] 0 K (.exit 0) (roS X Y n r i) =
  (K (SV.bool false) [] []) := by kernel_rfl
theorem farB_or (x y : Int) : farB x y = (decide (x > 281474976710656) || (decide (x < -281474976710656) || (decide (y > 281474976710656) || decide (y < -281474976710656)))) := by unfold farB; grind
theorem rn_ok (X Y : Nat → Int) (n : Nat) : CallOK Tryz.prog 104 [.ro n 2 (farCells X Y)] [] (.bool (!anyB (fun i => farB (X i) (Y i)) n)) [] [] :=
  runL_ok rnR (fun _ => 0) s2 2 (fun _ h => nomatch h) fun ⟨⟨hl, _⟩, _⟩ _ K hK => by
    have hK := hK [] fun _ h => nomatch h
    rw [rn_entry]
    refine scan_loop (fun i : Nat => rnS X Y n i) n (fun i => farB (X i) (Y i)) (fun i => afterE rnE (keepW rnR 0) rnF [1, 0, 1, 0] 0 K .ret (rnS X Y n i)) (afterE rnE (keepW rnR 0) rnF [1, 0, 1, 0] 0 K (.exit 0) (rnS X Y n n)) (fun i hi Z h1 h2 => ?_) (fun Z h => ?_) (fun i hi h _ => ?_) (fun h => ?_)
    · rw [rn_round, wi64_succ hi (by omega)]
      simp only [Int.toNat_natCast]
      rw [farB_or] at h1 h2
      exact Br.of (fun _ => Br.of (fun _ => Br.of (fun c => h1 (by rw [c]; rfl)) fun c => Br.of (fun _ => Br.of (fun d => h1 (by rw [c, d]; rfl)) fun d => Br.of (fun _ => Br.of (fun e => h1 (by rw [c, d, e]; rfl)) fun e => Br.of (fun _ => Br.of (fun f => h1 (by rw [c, d, e, f]; rfl)) fun f => h2 (by rw [c, d, e, f]; rfl))
        fun c => in_f hi c) fun c => in_f hi c) fun c => in_f hi c) fun c => in_f hi c) fun c => lt_f hi c
    · rw [rn_round]
      exact Br.of (fun c => lt_t c) fun _ => h
    · show afterE _ _ _ _ _ _ _ _
      rw [rn_ret]
      rw [show anyB (fun i => farB (X i) (Y i)) n = true from anyB_iff.2 ⟨i, hi, h⟩] at hK
      exact hK
    · rw [rn_after]
      rw [show anyB (fun i => farB (X i) (Y i)) n = false from anyB_false.2 h] at hK
      exact hK
theorem rn3_ok (t : TypeId) (ax ay bx ey x y : Int) : CallOK Tryz.prog 104 [.arr 0 0 3 3] [some (.cells t [.int .i64 ax, .int .i64 ay, .int .i64 bx, .int .i64 ey, .int .i64 x, .int .i64 y])] (.bool (!farT ax ay bx ey x y))
    [some (.cells t [.int .i64 ax, .int .i64 ay, .int .i64 bx, .int .i64 ey, .int .i64 x, .int .i64 y])] [] :=
  runU_ok 5 s2 2 fun _ _ K hK => by
    rw [rn3_nf]
    simp only [Br_bool]
    refine finB hK ?_
    unfold farT
    have key : ∀ c b : Bool, (bif c then false else b) = (!c && b) := by decide
    rw [farB_or, farB_or, farB_or]
    simp only [key, Bool.not_or, Bool.and_assoc, Bool.and_true]
def cRNear : List SV → List (Option SB) → KC → Prop
  | [.ro n 2 g], [], K => pts g ∧ K (.bool (!anyB (fun i => farB (px (g i)) (py (g i))) n)) [] []
  | [.arr 0 0 3 3], [some (.cells t [.int .i64 ax, .int .i64 ay, .int .i64 bx, .int .i64 ey, .int .i64 x, .int .i64 y])], K =>
    K (.bool (!farT ax ay bx ey x y)) [some (.cells t [.int .i64 ax, .int .i64 ay, .int .i64 bx, .int .i64 ey, .int .i64 x, .int .i64 y])] []
  | _, _, _ => False
theorem rnear_sat (xs : List SV) (σ : List (Option SB)) : Sat Tryz.prog 104 xs σ (cRNear xs σ) := by
  intro K hK
  unfold cRNear at hK
  split at hK
  · obtain ⟨hp, hK⟩ := hK
    refine ⟨_, _, _, hK, ?_⟩
    rw [pts_eq hp]; exact rn_ok _ _ _
  · exact ⟨_, _, _, hK, rn3_ok _ _ _ _ _ _ _⟩
  · exact hK.elim
theorem ro_ok (X Y : Nat → Int) (n : Nat) : CallOK Tryz.prog 78 [.ro n 2 (farCells X Y)] [] (.bool (anyB (fun i => offP (X i) (Y i)) n)) [] [] :=
  runL_ok roR (fun _ => 0) s2 2 (fun _ h => nomatch h) fun ⟨⟨hl, _⟩, _⟩ _ K hK => by
    have hK := hK [] fun _ h => nomatch h
    rw [ro_entry]
    refine scan_loop (fun i : Nat => roS X Y n false i) n (fun i => offP (X i) (Y i)) (fun i => afterE roE (keepW roR 0) roF [1, 0, 1, 0] 0 K .ret (roS X Y n true i)) (afterE roE (keepW roR 0) roF [1, 0, 1, 0] 0 K (.exit 0) (roS X Y n false n)) (fun i hi Z h1 h2 => ?_) (fun Z h => ?_) (fun i hi h _ => ?_) (fun h => ?_)
    · rw [ro_round, wi64_succ hi (by omega)]
      simp only [Int.toNat_natCast]
      exact Br.of (fun _ => Br.of (fun _ => Br.of (fun c => h1 c) fun c => h2 c) fun c => in_f hi c) fun c => lt_f hi c
    · rw [ro_round]
      exact Br.of (fun c => lt_t c) fun _ => h
    · show afterE _ _ _ _ _ _ _ _
      rw [ro_ret]
      rw [show anyB (fun i => offP (X i) (Y i)) n = true from anyB_iff.2 ⟨i, hi, h⟩] at hK
      exact hK
    · rw [ro_after]
      rw [show anyB (fun i => offP (X i) (Y i)) n = false from anyB_false.2 h] at hK
      exact hK
def cROffs : List SV → List (Option SB) → KC → Prop
  | [.ro n 2 g], [], K => pts g ∧ K (.bool (anyB (fun i => offP (px (g i)) (py (g i))) n)) [] []
  | _, _, _ => False
theorem roffs_sat (xs : List SV) (σ : List (Option SB)) : Sat Tryz.prog 78 xs σ (cROffs xs σ) := by
  intro K hK
  unfold cROffs at hK
  split at hK
  · obtain ⟨hp, hK⟩ := hK
    refine ⟨_, _, _, hK, ?_⟩
    rw [pts_eq hp]; exact ro_ok _ _ _
  · exact hK.elim
noncomputable def s3 : Know Tryz.prog := (((s2).add 104 cRNear rnear_sat).add 78 cROffs roffs_sat).add 76 cRField rfield_sat
theorem rline_nf (X Y : Nat → Int) (n : Nat) (K : KC) : run s3 2 77 [.ro n 2 (farCells X Y)] [] K =
  (Br (decide ((↑n : Int) < 3)) (K (SV.int .i64 42) [] []) (Br (decide ((↑n : Int) > 64)) (K (SV.int .i64 42) [] []) ((pts (farCells X Y)) ∧ (Br (!!anyB (fun (i : Nat) => farB (px (farCells X Y i)) (py (farCells X Y i))) n) (K (SV.int .i64 40) [] []) (K (SV.int .i64 0) [] []))))) := by kernel_rfl
theorem rline_ok (X Y : Nat → Int) (n : Nat) : CallOK Tryz.prog 77 [.ro n 2 (farCells X Y)] [] (.int .i64 (lineV n X Y)) [] [] :=
  run_ok s3 2 fun _ _ K hK => by
    rw [rline_nf]
    unfold lineV at hK
    refine Br.of (fun c => ?_) fun c => Br.of (fun c2 => ?_) fun c2 => ⟨fun _ => rfl, Br.of (fun c3 => ?_) fun c3 => ?_⟩
    · rw [c] at hK; exact hK
    · rw [c, c2] at hK; exact hK
    · have c3' : anyB (fun i => farB (X i) (Y i)) n = true := by rw [Bool.not_not] at c3; exact c3
      rw [c, c2, c3'] at hK; exact hK
    · have c3' : anyB (fun i => farB (X i) (Y i)) n = false := by rw [Bool.not_not] at c3; exact c3
      rw [c, c2, c3'] at hK; exact hK
theorem rline_sat (xs : List SV) (σ : List (Option SB)) : Sat Tryz.prog 77 xs σ (cSRight xs σ) := by
  intro K hK
  unfold cSRight at hK
  split at hK
  · obtain ⟨hp, hK⟩ := hK
    refine ⟨_, _, _, hK, ?_⟩
    rw [pts_eq hp]; exact rline_ok _ _ _
  · exact hK.elim
def rrR : List (Nat × Keep) := [(0, ⟨[3, 0, 2], [], [], 0, []⟩)]
def rrS (X Y : Nat → Int) (n : Nat) (r : Int) (i : Int) : St := ⟨[(3, .int .i64 i), (0, .ro n 2 (farCells X Y)), (2, .int .i64 r)], [], 0, [], 30⟩
noncomputable abbrev rrE : Env := envL rrR (fun _ => 0) s3 1
noncomputable abbrev rrF : Func := Tryz.f106
theorem rr_entry (X Y : Nat → Int) (n : Nat) (K : KC) : runL rrR (fun _ => 0) s3 2 106 [.ro n 2 (farCells X Y)] [] K =
  (Br (decide ((↑n : Int) < 2)) (K (SV.int .i64 42) [] []) (Br (decide ((↑n : Int) > 64)) (K (SV.int .i64 42) [] []) ((pts (farCells X Y)) ∧ (Br (anyB (fun (i : Nat) => offP (px (farCells X Y i)) (py (farCells X Y i))) n) (K (SV.int .i64 40) [] []) (∃ q_, loopE rrE (keepW rrR 0) rrF [1, 1, 1, 0, 1, 0] 0 0 K q_ { tmps := [(3, SV.int .i64 1), (0, SV.ro n 2 (farCells X Y)), (2, SV.int .i64 0)], store := [], nxt := 0, dirty := [], nt := 30 }))))) := by kernel_rfl
theorem rr_round (X Y : Nat → Int) (n i : Nat) (K : Ex → St → Prop) : roundE rrE (keepW rrR 0) rrF [1, 1, 1, 0, 1, 0] 0 K (rrS X Y n 0 i) =
  (Br (decide ((↑i : Int) < (↑n : Int))) (Br (decide (0 ≤ (↑i : Int)) && decide ((↑i : Int) < (↑n : Int))) (Br (decide (0 ≤ IntKind.i64.wrap ((↑i : Int) - 1)) && decide (IntKind.i64.wrap ((↑i : Int) - 1) < (↑n : Int))) (Br (X (↑i : Int).toNat == X (IntKind.i64.wrap ((↑i : Int) - 1)).toNat && Y (↑i : Int).toNat == Y (IntKind.i64.wrap ((↑i : Int) - 1)).toNat) (K Ex.ret { tmps := [(3, SV.int .i64 (↑i : Int)), (0, SV.ro n 2 (farCells X Y)), (2, SV.int .i64 43)], store := [], nxt := 0, dirty := [], nt := 30 }) (K Ex.normal { tmps := [(3, SV.int .i64 (IntKind.i64.wrap ((↑i : Int) + 1))), (0, SV.ro n 2 (farCells X Y)), (2, SV.int .i64 0)], store := [], nxt := 0, dirty := [], nt := 30 })) (False)) (False)) (K (Ex.exit 0) { tmps := [(3, SV.int .i64 (↑i : Int)), (0, SV.ro n 2 (farCells X Y)), (2, SV.int .i64 0)], store := [], nxt := 0, dirty := [], nt := 30 })) := by kernel_rfl
theorem rr_ret (X Y : Nat → Int) (n : Nat) (r : Int) (i : Int) (K : KC) : afterE rrE (keepW rrR 0) rrF [1, 1, 1, 0, 1, 0] 0 K .ret (rrS X Y n r i) =
  (K (SV.int .i64 r) [] []) := by kernel_rfl
theorem rr_after (X Y : Nat → Int) (n : Nat) (r : Int) (i : Int) (K : KC) : afterE rrE (keepW rrR 0) rrF [1, 1, 1, 0, 1, 0] 0 K (.exit 0) (rrS X Y n r i) =
  (K (SV.int .i64 0) [] []) := by kernel_rfl
def railW (n : Nat) (X Y : Nat → Int) : Int :=
  bif !(decide ((2 : Int) ≤ n) && decide ((n : Int) ≤ 64)) then 42 else bif anyB (fun k => offP (X k) (Y k)) n then 40 else bif dupB X Y n then 43 else 0
theorem rr_ok (X Y : Nat → Int) (n : Nat) : CallOK Tryz.prog 106 [.ro n 2 (farCells X Y)] [] (.int .i64 (railW n X Y)) [] [] :=
  runL_ok rrR (fun _ => 0) s3 2 (fun _ h => nomatch h) fun ⟨⟨hl, _⟩, _⟩ _ K hK => by
    have hK := hK [] fun _ h => nomatch h
    rw [rr_entry]
    unfold railW at hK
    refine Br.of (fun c => ?_) fun c => Br.of (fun c2 => ?_) fun c2 => ⟨fun _ => rfl, Br.of (fun c3 => ?_) fun c3 => ?_⟩
    · rw [show decide ((2 : Int) ≤ n) = false from decide_eq_false (by have := of_decide_eq_true c; omega)] at hK; exact hK
    · rw [show decide ((n : Int) ≤ 64) = false from decide_eq_false (by have := of_decide_eq_true c2; omega), Bool.and_false] at hK; exact hK
    all_goals
      have d1 := of_decide_eq_false c
      have d2 := of_decide_eq_false c2
      rw [show decide ((2 : Int) ≤ n) = true from decide_eq_true (by omega), show decide ((n : Int) ≤ 64) = true from decide_eq_true (by omega)] at hK
    · have c3' : anyB (fun i => offP (X i) (Y i)) n = true := c3
      rw [c3'] at hK; exact hK
    · have c3' : anyB (fun i => offP (X i) (Y i)) n = false := c3
      rw [c3'] at hK
      simp only [Bool.and_self, Bool.not_true, cond_false] at hK
      refine scan_loop (fun i : Nat => rrS X Y n 0 (i + 1 : Nat)) (n - 1) (sameB X Y) (fun i => afterE rrE (keepW rrR 0) rrF [1, 1, 1, 0, 1, 0] 0 K .ret (rrS X Y n 43 (i + 1 : Nat))) (afterE rrE (keepW rrR 0) rrF [1, 1, 1, 0, 1, 0] 0 K (.exit 0) (rrS X Y n 0 (n - 1 + 1 : Nat))) (fun i hi Z h1 h2 => ?_) (fun Z h => ?_) (fun i hi h _ => ?_) (fun h => ?_)
      · rw [rr_round, wi64_pred (by omega) (by omega), wi64_succ (n := n) (by omega) (by omega)]
        simp only [Int.toNat_natCast, Nat.add_sub_cancel]
        exact Br.of (fun _ => Br.of (fun _ => Br.of (fun _ => Br.of (fun c => h1 c) fun c => h2 c) fun c => in_f (by omega) c) fun c => in_f (by omega) c) fun c => lt_f (by omega) c
      · rw [rr_round, Nat.sub_add_cancel (by omega)]
        refine Br.of (fun c => lt_t c) fun _ => ?_
        rw [Nat.sub_add_cancel (by omega)] at h
        exact h
      · show afterE _ _ _ _ _ _ _ _
        rw [rr_ret]
        rw [show dupB X Y n = true from anyB_iff.2 ⟨i, hi, h⟩] at hK
        exact hK
      · rw [rr_after]
        rw [show dupB X Y n = false from anyB_false.2 h] at hK
        exact hK
def cRRail : List SV → List (Option SB) → KC → Prop
  | [.ro n 2 g], [], K => pts g ∧ K (.int .i64 (railW n (fun i => px (g i)) (fun i => py (g i)))) [] []
  | _, _, _ => False
theorem rrail_sat (xs : List SV) (σ : List (Option SB)) : Sat Tryz.prog 106 xs σ (cRRail xs σ) := by
  intro K hK
  unfold cRRail at hK
  split at hK
  · obtain ⟨hp, hK⟩ := hK
    refine ⟨_, _, _, hK, ?_⟩
    rw [pts_eq hp]; exact rr_ok _ _ _
  · exact hK.elim
noncomputable def s4 : Know Tryz.prog := (((s3).add 77 cSRight rline_sat).add 106 cRRail rrail_sat).add 107 (one cRGate) (one_sat fun xs σ v σ' d h => by
    unfold cRGate at h; split at h <;> cases h; first | exact rgate_ok | exact rgate_ok _ | exact rgate_ok _ _ | exact rgate_ok _ _ _ | exact rgate_ok _ _ _ _ | exact rgate_ok _ _ _ _ _ | exact rgate_ok _ _ _ _ _ _ | exact rgate_ok _ _ _ _ _ _ _ | exact rgate_ok _ _ _ _ _ _ _ _ | exact rgate_ok _ _ _ _ _ _ _ _ _ | exact rgate_ok _ _ _ _ _ _ _ _ _ _ | exact rgate_ok _ _ _ _ _ _ _ _ _ _ _)
end Go.Proofs.YtbedljhbakdghaaGreatDoor
