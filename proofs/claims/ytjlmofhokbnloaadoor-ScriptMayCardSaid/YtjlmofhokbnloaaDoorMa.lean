import Derived.Test.YtjlmofhokbnloaaDoorKj
import Derived.Test.YtjlmofhokbnloaaDoorSeCtl
namespace Go.Proofs.YtjlmofhokbnloaaDoor
open Go.Se
set_option maxRecDepth 100000
theorem right_nf (x : Ct) (K : KC) : run y8 3 44 [.agg (ctC x)] [] K =
  (Br (decide (0 ≤ if x.c < if x.b < x.t then x.b else x.t then x.c else if x.b < x.t then x.b else x.t)) (Br (!decide ((if x.c < if x.b < x.t then x.b else x.t then x.c else if x.b < x.t then x.b else x.t) ≤ 255)) (K (SV.int .i64 40) [] []) (Br (decide ((if x.c > if x.b > x.t then x.b else x.t then x.c else if x.b > x.t then x.b else x.t) > 255)) (K (SV.int .i64 40) [] []) (Br (decide (-127 ≤ x.s)) (Br (!decide (x.s ≤ 127)) (K (SV.int .i64 40) [] []) (Br (decide (-1 ≤ x.g)) (Br (!decide (x.g ≤ 8)) (K (SV.int .i64 40) [] []) (K (SV.int .i64 0) [] [])) (K (SV.int .i64 40) [] []))) (K (SV.int .i64 40) [] [])))) (K (SV.int .i64 40) [] [])) := by kernel_rfl
theorem rright_nf (x : Ct) (K : KC) : run y8 3 49 [.agg (ctC x)] [] K =
  (Br (decide (x.t ≥ 0)) (Br (decide (x.t ≤ 255)) (Br (decide (x.b ≥ 0)) (Br (decide (x.b ≤ 255)) (Br (decide (x.c ≥ 0)) (Br (decide (x.c ≤ 255)) (Br (decide (x.s ≥ -127)) (Br (decide (x.s ≤ 127)) (Br (decide (x.g ≥ -1)) (Br (decide (x.g ≤ 8)) (K (SV.int .i64 0) [] []) (K (SV.int .i64 40) [] [])) (K (SV.int .i64 40) [] [])) (K (SV.int .i64 40) [] [])) (K (SV.int .i64 40) [] [])) (K (SV.int .i64 40) [] [])) (K (SV.int .i64 40) [] [])) (K (SV.int .i64 40) [] [])) (K (SV.int .i64 40) [] [])) (K (SV.int .i64 40) [] [])) (K (SV.int .i64 40) [] [])) := by kernel_rfl
def cRight : List SV → List (Option SB) → Out
  | [.agg [.int .i64 t, .int .i64 b, .int .i64 c, .int .i64 s, .int .i64 g, .bool a, .bool r]], [] => some (.int .i64 (rightV ⟨t, b, c, s, g, a, r⟩), [], [])
  | _, _ => none
theorem right_ok (x : Ct) : CallOK Tryd.prog 44 [.agg (ctC x)] [] (.int .i64 (rightV x)) [] [] :=
  run_ok y8 3 fun _ _ K hK => by rw [right_nf]; exact right_law hK
theorem rightc_ok (t b c s g : Int) (a r : Bool) : CallOK Tryd.prog 44 [.agg [.int .i64 t, .int .i64 b, .int .i64 c, .int .i64 s, .int .i64 g, .bool a, .bool r]] [] (.int .i64 (rightV ⟨t, b, c, s, g, a, r⟩)) [] [] := right_ok ⟨t, b, c, s, g, a, r⟩
theorem rright_ok (x : Ct) : CallOK Tryd.prog 49 [.agg (ctC x)] [] (.int .i64 (rightV x)) [] [] :=
  run_ok y8 3 fun _ _ K hK => by rw [rright_nf]; exact rright_law hK
theorem rrightc_ok (t b c s g : Int) (a r : Bool) : CallOK Tryd.prog 49 [.agg [.int .i64 t, .int .i64 b, .int .i64 c, .int .i64 s, .int .i64 g, .bool a, .bool r]] [] (.int .i64 (rightV ⟨t, b, c, s, g, a, r⟩)) [] [] := rright_ok ⟨t, b, c, s, g, a, r⟩
noncomputable def c1 : Know Tryd.prog := ((y8).add 44 (one cRight) (one_sat fun xs σ v σ' d h => by
    unfold cRight at h; split at h <;> cases h; first | exact rightc_ok | exact rightc_ok _ | exact rightc_ok _ _ | exact rightc_ok _ _ _ | exact rightc_ok _ _ _ _ | exact rightc_ok _ _ _ _ _ | exact rightc_ok _ _ _ _ _ _ | exact rightc_ok _ _ _ _ _ _ _ | exact rightc_ok _ _ _ _ _ _ _ _ | exact rightc_ok _ _ _ _ _ _ _ _ _ | exact rightc_ok _ _ _ _ _ _ _ _ _ _ | exact rightc_ok _ _ _ _ _ _ _ _ _ _ _)).add 49 (one cRight) (one_sat fun xs σ v σ' d h => by
    unfold cRight at h; split at h <;> cases h; first | exact rrightc_ok | exact rrightc_ok _ | exact rrightc_ok _ _ | exact rrightc_ok _ _ _ | exact rrightc_ok _ _ _ _ | exact rrightc_ok _ _ _ _ _ | exact rrightc_ok _ _ _ _ _ _ | exact rrightc_ok _ _ _ _ _ _ _ | exact rrightc_ok _ _ _ _ _ _ _ _ | exact rrightc_ok _ _ _ _ _ _ _ _ _ | exact rrightc_ok _ _ _ _ _ _ _ _ _ _ | exact rrightc_ok _ _ _ _ _ _ _ _ _ _ _)
abbrev ctT : TypeId := 35
def ixR : List (Nat × Keep) := [(0, ⟨[0, 1, 4, 6, 7, 8], [], [], 0, []⟩)]
def ixQ : List (Nat × Keep) := [(0, ⟨[0, 1, 4, 6, 7, 8], [0], [], 1, []⟩)]
noncomputable abbrev ixF : Func := Tryd.f80
noncomputable abbrev ixE : Env := envL ixR (fun _ => 0) c1 2
noncomputable abbrev iyE : Env := envL ixQ (fun _ => 0) c1 2
theorem ix_entry (n : Nat) (X : Nat → Ct) (K : KC) : runL ixR (fun _ => 0) c1 3 80 [.ro n 7 (ctG X), .fn (.func 43) [] []] [] K =
  (∃ q_, loopE ixE (keepW ixR 0) ixF [1, 0, 1, 0] 0 0 K q_ { tmps := [(0, SV.ro n 7 (ctG X)), (1, SV.fn (Fn.func 43) [] []), (4, SV.int .i64 0), (6, SV.ro n 7 (ctG X)), (7, SV.int .i64 (↑n : Int)), (8, SV.int .i64 0)], store := [], nxt := 0, dirty := [], nt := 19 }) := by kernel_rfl
theorem iy_entry (n : Nat) (X : Nat → Ct) (x : Ct) (K : KC) : runL ixQ (fun _ => 0) c1 3 80 [.ro n 7 (ctG X), .fn (.func 84) [] [.ptr 0 0]] [some (.cells ctT (ctC x))] K =
  (∃ q_, loopE iyE (keepW ixQ 1) ixF [1, 0, 1, 0] 0 1 K q_ { tmps := [(0, SV.ro n 7 (ctG X)), (1, SV.fn (Fn.func 84) [] [SV.ptr 0 0]), (4, SV.int .i64 0), (6, SV.ro n 7 (ctG X)), (7, SV.int .i64 (↑n : Int)), (8, SV.int .i64 0)], store := [(0, some (SB.cells 35 (ctC x)))], nxt := 1, dirty := [], nt := 19 }) := by kernel_rfl
def ixS (n : Nat) (X : Nat → Ct) (v i : Int) : St := ⟨[(0, .ro n 7 (ctG X)), (1, .fn (.func 43) [] []), (4, .int .i64 v), (6, .ro n 7 (ctG X)), (7, .int .i64 n), (8, .int .i64 i)], [], 0, [], 19⟩
def iyS (n : Nat) (X : Nat → Ct) (x : Ct) (v i : Int) : St := ⟨[(0, .ro n 7 (ctG X)), (1, .fn (.func 84) [] [.ptr 0 0]), (4, .int .i64 v), (6, .ro n 7 (ctG X)), (7, .int .i64 n), (8, .int .i64 i)], [(0, some (.cells ctT (ctC x)))], 1, [], 19⟩
theorem ix_round (n : Nat) (X : Nat → Ct) (i : Nat) (K : Ex → St → Prop) : roundE ixE (keepW ixR 0) ixF [1, 0, 1, 0] 0 K (ixS n X 0 i) =
  (Br (decide ((↑i : Int) < (↑n : Int))) (Br (decide (0 ≤ (↑i : Int)) && decide ((↑i : Int) < (↑n : Int))) (Br (rightV ((X (↑i : Int).toNat)) != 0) (K Ex.ret { tmps := [(0, SV.ro n 7 (ctG X)), (1, SV.fn (Fn.func 43) [] []), (4, SV.int .i64 (↑i : Int)), (6, SV.ro n 7 (ctG X)), (7, SV.int .i64 (↑n : Int)), (8, SV.int .i64 (↑i : Int))], store := [], nxt := 0, dirty := [], nt := 19 }) (K Ex.normal { tmps := [(0, SV.ro n 7 (ctG X)), (1, SV.fn (Fn.func 43) [] []), (4, SV.int .i64 0), (6, SV.ro n 7 (ctG X)), (7, SV.int .i64 (↑n : Int)), (8, SV.int .i64 (IntKind.i64.wrap ((↑i : Int) + 1)))], store := [], nxt := 0, dirty := [], nt := 19 })) (False)) (K (Ex.exit 0) { tmps := [(0, SV.ro n 7 (ctG X)), (1, SV.fn (Fn.func 43) [] []), (4, SV.int .i64 0), (6, SV.ro n 7 (ctG X)), (7, SV.int .i64 (↑n : Int)), (8, SV.int .i64 (↑i : Int))], store := [], nxt := 0, dirty := [], nt := 19 })) := by kernel_rfl
theorem ix_ret (n : Nat) (X : Nat → Ct) (v i : Int) (K : KC) : afterE ixE (keepW ixR 0) ixF [1, 0, 1, 0] 0 K .ret (ixS n X v i) =
  (K (SV.int .i64 v) [] []) := by kernel_rfl
theorem ix_after (n : Nat) (X : Nat → Ct) (v i : Int) (K : KC) : afterE ixE (keepW ixR 0) ixF [1, 0, 1, 0] 0 K (.exit 0) (ixS n X v i) =
  (K (SV.int .i64 (-1)) [] []) := by kernel_rfl
theorem iy_round (n : Nat) (X : Nat → Ct) (x : Ct) (i : Nat) (K : Ex → St → Prop) : roundE iyE (keepW ixQ 1) ixF [1, 0, 1, 0] 0 K (iyS n X x 0 i) =
  (Br (decide ((↑i : Int) < (↑n : Int))) (Br (decide (0 ≤ (↑i : Int)) && decide ((↑i : Int) < (↑n : Int))) (Br (!(eqCt (X (↑i : Int).toNat) x)) (K Ex.ret { tmps := [(0, SV.ro n 7 (ctG X)), (1, SV.fn (Fn.func 84) [] [SV.ptr 0 0]), (4, SV.int .i64 (↑i : Int)), (6, SV.ro n 7 (ctG X)), (7, SV.int .i64 (↑n : Int)), (8, SV.int .i64 (↑i : Int))], store := [(0, some (SB.cells 35 (ctC x)))], nxt := 1, dirty := [], nt := 19 }) (K Ex.normal { tmps := [(0, SV.ro n 7 (ctG X)), (1, SV.fn (Fn.func 84) [] [SV.ptr 0 0]), (4, SV.int .i64 0), (6, SV.ro n 7 (ctG X)), (7, SV.int .i64 (↑n : Int)), (8, SV.int .i64 (IntKind.i64.wrap ((↑i : Int) + 1)))], store := [(0, some (SB.cells 35 (ctC x)))], nxt := 1, dirty := [], nt := 19 })) (False)) (K (Ex.exit 0) { tmps := [(0, SV.ro n 7 (ctG X)), (1, SV.fn (Fn.func 84) [] [SV.ptr 0 0]), (4, SV.int .i64 0), (6, SV.ro n 7 (ctG X)), (7, SV.int .i64 (↑n : Int)), (8, SV.int .i64 (↑i : Int))], store := [(0, some (SB.cells 35 (ctC x)))], nxt := 1, dirty := [], nt := 19 })) := by kernel_rfl
theorem iy_ret (n : Nat) (X : Nat → Ct) (x : Ct) (v i : Int) (K : KC) : afterE iyE (keepW ixQ 1) ixF [1, 0, 1, 0] 1 K .ret (iyS n X x v i) =
  (K (SV.int .i64 v) [some (SB.cells 35 (ctC x))] []) := by kernel_rfl
theorem iy_after (n : Nat) (X : Nat → Ct) (x : Ct) (v i : Int) (K : KC) : afterE iyE (keepW ixQ 1) ixF [1, 0, 1, 0] 1 K (.exit 0) (iyS n X x v i) =
  (K (SV.int .i64 (-1)) [some (SB.cells 35 (ctC x))] []) := by kernel_rfl
theorem ix_ok (n : Nat) (X : Nat → Ct) : CallOK Tryd.prog 80 [.ro n 7 (ctG X), .fn (.func 43) [] []] [] (.int .i64 (ixFrom (fun i => rightV (X i) != 0) n 0)) [] [] :=
  runL_ok ixR (fun _ => 0) c1 3 (fun _ h => nomatch h) fun ⟨⟨hl, _⟩, _⟩ _ K hK => by
    have hK := hK [] fun _ h => nomatch h
    rw [ix_entry]
    refine ⟨n + 1, loop_up (fun i : Nat => ixS n X 0 i) n (fun i => K (.int .i64 (ixFrom (fun i => rightV (X i) != 0) n i)) [] []) (fun i hi hI Y hY => ?_) (fun hI Y => ?_) hK⟩
    · obtain ⟨s1, s2⟩ := ix_step hi (Q := fun v => K (.int .i64 v) [] []) hI
      rw [ix_round, wi64_succ hi hl]
      refine Br.of (fun _ => Br.of (fun _ => Br.of (fun h => ?_) fun h => hY (s2 h)) fun f => in_f hi f) fun f => lt_f hi f
      show afterE ixE (keepW ixR 0) ixF [1, 0, 1, 0] 0 K .ret (ixS n X i i)
      rw [ix_ret]; exact s1 h
    · rw [ix_round]
      refine Br.of (fun c => lt_t c) fun _ => ?_
      show afterE ixE (keepW ixR 0) ixF [1, 0, 1, 0] 0 K (.exit 0) (ixS n X 0 n)
      rw [ix_after]
      have hI : K (.int .i64 (ixFrom (fun i => rightV (X i) != 0) n n)) [] [] := hI
      rw [ix_end] at hI; exact hI
theorem iy_ok (n : Nat) (X : Nat → Ct) (x : Ct) : CallOK Tryd.prog 80 [.ro n 7 (ctG X), .fn (.func 84) [] [.ptr 0 0]] [some (.cells ctT (ctC x))] (.int .i64 (ixFrom (fun i => !(eqCt (X i) x)) n 0)) [some (.cells ctT (ctC x))] [] :=
  runL_ok ixQ (fun _ => 0) c1 3 (fun _ h => nomatch h) fun ⟨⟨hl, _⟩, _⟩ _ K hK => by
    have hK := hK [] fun _ h => nomatch h
    rw [iy_entry]
    refine ⟨n + 1, loop_up (fun i : Nat => iyS n X x 0 i) n (fun i => K (.int .i64 (ixFrom (fun i => !(eqCt (X i) x)) n i)) [some (.cells ctT (ctC x))] []) (fun i hi hI Y hY => ?_) (fun hI Y => ?_) hK⟩
    · obtain ⟨s1, s2⟩ := ix_step hi (Q := fun v => K (.int .i64 v) [some (.cells ctT (ctC x))] []) hI
      rw [iy_round, wi64_succ hi hl]
      refine Br.of (fun _ => Br.of (fun _ => Br.of (fun h => ?_) fun h => hY (s2 h)) fun f => in_f hi f) fun f => lt_f hi f
      show afterE iyE (keepW ixQ 1) ixF [1, 0, 1, 0] 1 K .ret (iyS n X x i i)
      rw [iy_ret]; exact s1 h
    · rw [iy_round]
      refine Br.of (fun c => lt_t c) fun _ => ?_
      show afterE iyE (keepW ixQ 1) ixF [1, 0, 1, 0] 1 K (.exit 0) (iyS n X x 0 n)
      rw [iy_after]
      have hI : K (.int .i64 (ixFrom (fun i => !(eqCt (X i) x)) n n)) [some (.cells ctT (ctC x))] [] := hI
      rw [ix_end] at hI; exact hI
def cIx : List SV → List (Option SB) → KC → Prop
  | [.ro n 7 g, .fn (.func 43) [] []], [], K => ∃ X : Nat → Ct, g = ctG X ∧ K (.int .i64 (ixFrom (fun i => rightV (X i) != 0) n 0)) [] []
  | [.ro n 7 g, .fn (.func 84) [] [.ptr 0 0]], [some (.cells 35 cs)], K => ∃ (X : Nat → Ct) (x : Ct), (g = ctG X ∧ cs = ctC x) ∧ K (.int .i64 (ixFrom (fun i => !(eqCt (X i) x)) n 0)) [some (.cells 35 (ctC x))] []
  | _, _, _ => False
theorem ix_sat (xs : List SV) (σ : List (Option SB)) : Sat Tryd.prog 80 xs σ (cIx xs σ) := by
  intro K hK
  unfold cIx at hK
  split at hK
  case h_3 => exact hK.elim
  · obtain ⟨X, rfl, hK⟩ := hK; exact ⟨_, _, _, hK, ix_ok _ _⟩
  · obtain ⟨X, x, ⟨rfl, rfl⟩, hK⟩ := hK; exact ⟨_, _, _, hK, iy_ok _ _ _⟩
noncomputable def c2 : Know Tryd.prog := (c1).add 80 cIx ix_sat
end Go.Proofs.YtjlmofhokbnloaaDoor

namespace Go.Proofs.YtjlmofhokbnloaaDoor
open Go.Se
set_option maxRecDepth 100000
theorem escp_sat (xs : List SV) (σ : List (Option SB)) : Sat Tryd.prog 110 xs σ (one cEsc xs σ) :=
  esc_sat Tryd.func110 (by kernel_rfl) (by kernel_rfl) (by kernel_rfl) (by kernel_rfl) xs σ
noncomputable def c3 : Know Tryd.prog := (c2).add 110 (one cEsc) escp_sat
abbrev sbT : TypeId := 63
theorem ws0_nf (s : ByteArray) (K : KC) : run c3 3 45 [.ptr 0 0, .str s] [some (.cells sbT [.nilp, .nils])] K =
  ((∀ (i : Nat), i < s.size → (strG s i).length = 1 ∧ (strG s i).all oneCell = true) ∧ (Br (true && (decide (s.size * 1 ≤ 1099511627776) && decide (s.size < 9223372036854775808))) (Br (decide (0 < s.size)) (K (SV.tup [SV.int .i64 (↑s.size : Int), SV.nilI]) [some (SB.cells 63 [SV.ptr 0 0, SV.own 1 0 1 s.size]), some (SB.row 5 1 s.size (strG s))] [0]) (K (SV.tup [SV.int .i64 (↑s.size : Int), SV.nilI]) [some (SB.cells 63 [SV.ptr 0 0, SV.nils])] [0])) (False))) := by kernel_rfl
theorem ws1_nf (s : ByteArray) (n : Nat) (g : Nat → List SV) (K : KC) : run c3 3 45 [.ptr 0 0, .str s] [some (.cells sbT [.ptr 0 0, .own 1 0 1 n]), some (.row 5 1 n g)] K =
  ((∀ (i : Nat), i < s.size → (strG s i).length = 1 ∧ (strG s i).all oneCell = true) ∧ (Br (true && decide (n = n) && (decide ((n + s.size) * 1 ≤ 1099511627776) && decide (n + s.size < 9223372036854775808))) (K (SV.tup [SV.int .i64 (↑s.size : Int), SV.nilI]) [some (SB.cells 63 [SV.ptr 0 0, SV.own 2 0 1 (n + s.size)]), none, some (SB.row 5 1 (n + s.size) (catR n g (strG s)))] [0, 1]) (False))) := by kernel_rfl
theorem ws0_ok (s : ByteArray) (h0 : 0 < s.size) (h1 : s.size ≤ 1099511627776) : CallOK Tryd.prog 45 [.ptr 0 0, .str s] [some (.cells sbT [.nilp, .nils])] (.tup [.int .i64 s.size, .nilI]) [some (.cells sbT [.ptr 0 0, .own 1 0 1 s.size]), some (.row 5 1 s.size (tG (listOf s)))] [0] :=
  run_ok c3 3 fun _ _ K hK => by
    rw [ws0_nf, strG_tG]
    exact ⟨fun i _ => ⟨rfl, rfl⟩, Br.of (fun _ => Br.of (fun _ => hK) fun f => absurd h0 (of_decide_eq_false f)) fun f => absurd f (by simp only [Bool.true_and, Bool.and_eq_false_iff, decide_eq_false_iff_not]; omega)⟩
theorem ws1_ok (s : ByteArray) (l : List Int) (h1 : l.length + s.size ≤ 1099511627776) : CallOK Tryd.prog 45 [.ptr 0 0, .str s] [some (.cells sbT [.ptr 0 0, .own 1 0 1 l.length]), some (.row 5 1 l.length (tG l))] (.tup [.int .i64 s.size, .nilI])
    [some (.cells sbT [.ptr 0 0, .own 2 0 1 (l ++ listOf s).length]), none, some (.row 5 1 (l ++ listOf s).length (tG (l ++ listOf s)))] [0, 1] :=
  run_ok c3 3 fun _ _ K hK => by
    rw [ws1_nf, strG_tG, catR_tG]
    rw [List.length_append, list_length] at hK
    exact ⟨fun i _ => ⟨rfl, rfl⟩, Br.of (fun _ => hK) fun f => absurd f (by simp; omega)⟩
def cWs : List SV → List (Option SB) → KC → Prop
  | [.ptr 0 0, .str s], [some (.cells 63 [.nilp, .nils])], K => (0 < s.size ∧ s.size ≤ 1099511627776) ∧ K (.tup [.int .i64 s.size, .nilI]) [some (.cells 63 [.ptr 0 0, .own 1 0 1 s.size]), some (.row 5 1 s.size (tG (listOf s)))] [0]
  | [.ptr 0 0, .str s], [some (.cells 63 [.ptr 0 0, .own 1 0 1 n]), some (.row 5 1 n' g)], K => ∃ l : List Int, ((n = l.length ∧ n' = l.length ∧ g = tG l) ∧ l.length + s.size ≤ 1099511627776) ∧
      K (.tup [.int .i64 s.size, .nilI]) [some (.cells 63 [.ptr 0 0, .own 2 0 1 (l ++ listOf s).length]), none, some (.row 5 1 (l ++ listOf s).length (tG (l ++ listOf s)))] [0, 1]
  | _, _, _ => False
theorem ws_sat (xs : List SV) (σ : List (Option SB)) : Sat Tryd.prog 45 xs σ (cWs xs σ) := by
  intro K hK
  unfold cWs at hK
  split at hK
  case h_3 => exact hK.elim
  · obtain ⟨⟨h0, h1⟩, hK⟩ := hK; exact ⟨_, _, _, hK, ws0_ok _ h0 h1⟩
  · obtain ⟨l, ⟨⟨rfl, rfl, rfl⟩, h1⟩, hK⟩ := hK; exact ⟨_, _, _, hK, ws1_ok _ l h1⟩
noncomputable def c4 : Know Tryd.prog := (c3).add 45 cWs ws_sat
end Go.Proofs.YtjlmofhokbnloaaDoor

namespace Go.Proofs.YtjlmofhokbnloaaDoor
open Go.Se
set_option maxRecDepth 100000
abbrev csT : TypeId := 23
noncomputable def prL : SB := recL Tryd.f14 49 [(16, .junk), (15, .junk), (14, .junk), (4, .ptr 1 0), (13, .junk), (12, .junk), (11, .junk), (10, .junk), (9, .junk), (3, .junk), (2, .junk), (0, .junk)]
def prR : List (Nat × Keep × List ((Nat × List Nat) × Nat)) := [(0, ⟨[0, 1], [0, 1, 3, 4], [0, 1, 2, 3, 4, 5, 6, 7], 5, []⟩, [((0, [4, 1]), 4)])]
def prU : Nat → Nat := fun b => bif Nat.beq b 2 then 8 else 0
noncomputable abbrev rnE : Env := envP prR prU c4 3
noncomputable abbrev rnF : Func := Tryd.f83
def prB (l : List Int) : Option SB := some (.row 5 1 l.length (tG l))
theorem pn_entry (n : Nat) (X : Nat → Ct) (l : List Int) (K : KC) : runP prR prU c4 4 83 [.yld 0, .ptr 3 0] [some prL, some (.cells sbT [.ptr 1 0, .own 2 0 1 l.length]), some (.row 5 1 l.length (tG l)), some (.cells csT [.ro n 7 (ctG X)])] K =
  (∃ q_, loopE rnE (keepP prR 4) rnF [0] 0 4 K q_ { tmps := [(0, SV.yld 0), (1, SV.ptr 3 0)], store := [(0, some (prL)), (1, some (SB.cells 63 [SV.ptr 1 0, SV.own 4 0 1 l.length])), (3, some (SB.cells 23 [SV.ro n 7 (ctG X)])), (4, some (SB.row 5 1 l.length (tG l)))], nxt := 5, dirty := [0, 1, 2, 3, 4, 5, 6, 7], nt := 26 }) := by kernel_rfl
noncomputable def pnS (n : Nat) (X : Nat → Ct) (l : List Int) : St := ⟨[(0, .yld 0), (1, .ptr 3 0)], [(0, some prL), (1, some (.cells sbT [.ptr 1 0, .own 4 0 1 l.length])), (3, some (.cells csT [.ro n 7 (ctG X)])), (4, some (.row 5 1 l.length (tG l)))], 5, [0, 1, 2, 3, 4, 5, 6, 7], 26⟩
theorem pn_round (n : Nat) (X : Nat → Ct) (l : List Int) (K : Ex → St → Prop) : roundE rnE (keepP prR 4) rnF [0] 0 K (pnS n X l) =
  (Br (decide ((↑n : Int) > 0)) (Br (true && decide (0 < (↑n : Int))) (∃ (e398 : Nat → Ct), ∃ (e397 : Ct), (ctG X = ctG e398 ∧ (ctC (X (Int.toNat 0))) = (ctC e397)) ∧ (Br (decide (ixFrom (fun (i : Nat) => !eqCt (e398 i) e397) n 0 < 0)) (∃ (e394 : List Int), ((l.length = e394.length ∧ l.length = e394.length ∧ tG l = tG e394) ∧ e394.length + 2 ≤ 1099511627776) ∧ (Br (decide (1 + (bytesOf (wholeL (↑n : Int))).size < 9223372036854775808)) (∃ (e391 : List Int), (((e394 ++ listOf (⟨#[100, 111]⟩ : ByteArray)).length = e391.length ∧ (e394 ++ listOf (⟨#[100, 111]⟩ : ByteArray)).length = e391.length ∧ tG (e394 ++ listOf (⟨#[100, 111]⟩ : ByteArray)) = tG e391) ∧ e391.length + ((⟨#[32]⟩ : ByteArray) ++ bytesOf (wholeL (↑n : Int))).size ≤ 1099511627776) ∧ (Br (decide (1 + (bytesOf (wholeL (X (Int.toNat 0)).t)).size < 9223372036854775808)) (∃ (e388 : List Int), (((e391 ++ listOf ((⟨#[32]⟩ : ByteArray) ++ bytesOf (wholeL (↑n : Int)))).length = e388.length ∧ (e391 ++ listOf ((⟨#[32]⟩ : ByteArray) ++ bytesOf (wholeL (↑n : Int)))).length = e388.length ∧ tG (e391 ++ listOf ((⟨#[32]⟩ : ByteArray) ++ bytesOf (wholeL (↑n : Int)))) = tG e388) ∧ e388.length + ((⟨#[32]⟩ : ByteArray) ++ bytesOf (wholeL (X (Int.toNat 0)).t)).size ≤ 1099511627776) ∧ (Br (decide (1 + (bytesOf (wholeL (X (Int.toNat 0)).b)).size < 9223372036854775808)) (∃ (e385 : List Int), (((e388 ++ listOf ((⟨#[32]⟩ : ByteArray) ++ bytesOf (wholeL (X (Int.toNat 0)).t))).length = e385.length ∧ (e388 ++ listOf ((⟨#[32]⟩ : ByteArray) ++ bytesOf (wholeL (X (Int.toNat 0)).t))).length = e385.length ∧ tG (e388 ++ listOf ((⟨#[32]⟩ : ByteArray) ++ bytesOf (wholeL (X (Int.toNat 0)).t))) = tG e385) ∧ e385.length + ((⟨#[32]⟩ : ByteArray) ++ bytesOf (wholeL (X (Int.toNat 0)).b)).size ≤ 1099511627776) ∧ (Br (decide (1 + (bytesOf (wholeL (X (Int.toNat 0)).c)).size < 9223372036854775808)) (∃ (e382 : List Int), (((e385 ++ listOf ((⟨#[32]⟩ : ByteArray) ++ bytesOf (wholeL (X (Int.toNat 0)).b))).length = e382.length ∧ (e385 ++ listOf ((⟨#[32]⟩ : ByteArray) ++ bytesOf (wholeL (X (Int.toNat 0)).b))).length = e382.length ∧ tG (e385 ++ listOf ((⟨#[32]⟩ : ByteArray) ++ bytesOf (wholeL (X (Int.toNat 0)).b))) = tG e382) ∧ e382.length + ((⟨#[32]⟩ : ByteArray) ++ bytesOf (wholeL (X (Int.toNat 0)).c)).size ≤ 1099511627776) ∧ (Br (decide (1 + (bytesOf (wholeL (X (Int.toNat 0)).s)).size < 9223372036854775808)) (∃ (e379 : List Int), (((e382 ++ listOf ((⟨#[32]⟩ : ByteArray) ++ bytesOf (wholeL (X (Int.toNat 0)).c))).length = e379.length ∧ (e382 ++ listOf ((⟨#[32]⟩ : ByteArray) ++ bytesOf (wholeL (X (Int.toNat 0)).c))).length = e379.length ∧ tG (e382 ++ listOf ((⟨#[32]⟩ : ByteArray) ++ bytesOf (wholeL (X (Int.toNat 0)).c))) = tG e379) ∧ e379.length + ((⟨#[32]⟩ : ByteArray) ++ bytesOf (wholeL (X (Int.toNat 0)).s)).size ≤ 1099511627776) ∧ (Br (decide (1 + (bytesOf (wholeL (X (Int.toNat 0)).g)).size < 9223372036854775808)) (∃ (e376 : List Int), (((e379 ++ listOf ((⟨#[32]⟩ : ByteArray) ++ bytesOf (wholeL (X (Int.toNat 0)).s))).length = e376.length ∧ (e379 ++ listOf ((⟨#[32]⟩ : ByteArray) ++ bytesOf (wholeL (X (Int.toNat 0)).s))).length = e376.length ∧ tG (e379 ++ listOf ((⟨#[32]⟩ : ByteArray) ++ bytesOf (wholeL (X (Int.toNat 0)).s))) = tG e376) ∧ e376.length + ((⟨#[32]⟩ : ByteArray) ++ bytesOf (wholeL (X (Int.toNat 0)).g)).size ≤ 1099511627776) ∧ (Br ((X (Int.toNat 0)).a) (∃ (e373 : List Int), (((e376 ++ listOf ((⟨#[32]⟩ : ByteArray) ++ bytesOf (wholeL (X (Int.toNat 0)).g))).length = e373.length ∧ (e376 ++ listOf ((⟨#[32]⟩ : ByteArray) ++ bytesOf (wholeL (X (Int.toNat 0)).g))).length = e373.length ∧ tG (e376 ++ listOf ((⟨#[32]⟩ : ByteArray) ++ bytesOf (wholeL (X (Int.toNat 0)).g))) = tG e373) ∧ e373.length + 5 ≤ 1099511627776) ∧ (Br ((X (Int.toNat 0)).r) (∃ (e370 : List Int), (((e373 ++ listOf (⟨#[32, 97, 117, 116, 111]⟩ : ByteArray)).length = e370.length ∧ (e373 ++ listOf (⟨#[32, 97, 117, 116, 111]⟩ : ByteArray)).length = e370.length ∧ tG (e373 ++ listOf (⟨#[32, 97, 117, 116, 111]⟩ : ByteArray)) = tG e370) ∧ e370.length + 6 ≤ 1099511627776) ∧ (∃ (e368 : List Int), (((e370 ++ listOf (⟨#[32, 114, 101, 115, 101, 116]⟩ : ByteArray)).length = e368.length ∧ (e370 ++ listOf (⟨#[32, 114, 101, 115, 101, 116]⟩ : ByteArray)).length = e368.length ∧ tG (e370 ++ listOf (⟨#[32, 114, 101, 115, 101, 116]⟩ : ByteArray)) = tG e368) ∧ e368.length + 1 ≤ 1099511627776) ∧ (Br (decide (0 ≤ (↑n : Int)) && (decide ((↑n : Int) ≤ (↑n : Int)) && decide ((↑n : Int) ≤ (↑n : Int)))) (K Ex.normal { tmps := [(0, SV.yld 0), (1, SV.ptr 3 0)], store := [(0, some (prL)), (1, some (SB.cells 63 [SV.ptr 1 0, SV.own 4 0 1 (e368 ++ listOf (⟨#[10]⟩ : ByteArray)).length])), (3, some (SB.cells 23 [SV.ro ((↑n : Int).toNat - (↑n : Int).toNat) 7 fun (i : Nat) => ctG X (i + (↑n : Int).toNat)])), (4, some (SB.row 5 1 (e368 ++ listOf (⟨#[10]⟩ : ByteArray)).length (tG (e368 ++ listOf (⟨#[10]⟩ : ByteArray)))))], nxt := 5, dirty := [0, 1, 2, 3, 4, 5, 6, 7], nt := 26 }) (False)))) (∃ (e370 : List Int), (((e373 ++ listOf (⟨#[32, 97, 117, 116, 111]⟩ : ByteArray)).length = e370.length ∧ (e373 ++ listOf (⟨#[32, 97, 117, 116, 111]⟩ : ByteArray)).length = e370.length ∧ tG (e373 ++ listOf (⟨#[32, 97, 117, 116, 111]⟩ : ByteArray)) = tG e370) ∧ e370.length + 1 ≤ 1099511627776) ∧ (Br (decide (0 ≤ (↑n : Int)) && (decide ((↑n : Int) ≤ (↑n : Int)) && decide ((↑n : Int) ≤ (↑n : Int)))) (K Ex.normal { tmps := [(0, SV.yld 0), (1, SV.ptr 3 0)], store := [(0, some (prL)), (1, some (SB.cells 63 [SV.ptr 1 0, SV.own 4 0 1 (e370 ++ listOf (⟨#[10]⟩ : ByteArray)).length])), (3, some (SB.cells 23 [SV.ro ((↑n : Int).toNat - (↑n : Int).toNat) 7 fun (i : Nat) => ctG X (i + (↑n : Int).toNat)])), (4, some (SB.row 5 1 (e370 ++ listOf (⟨#[10]⟩ : ByteArray)).length (tG (e370 ++ listOf (⟨#[10]⟩ : ByteArray)))))], nxt := 5, dirty := [0, 1, 2, 3, 4, 5, 6, 7], nt := 26 }) (False))))) (Br ((X (Int.toNat 0)).r) (∃ (e372 : List Int), (((e376 ++ listOf ((⟨#[32]⟩ : ByteArray) ++ bytesOf (wholeL (X (Int.toNat 0)).g))).length = e372.length ∧ (e376 ++ listOf ((⟨#[32]⟩ : ByteArray) ++ bytesOf (wholeL (X (Int.toNat 0)).g))).length = e372.length ∧ tG (e376 ++ listOf ((⟨#[32]⟩ : ByteArray) ++ bytesOf (wholeL (X (Int.toNat 0)).g))) = tG e372) ∧ e372.length + 6 ≤ 1099511627776) ∧ (∃ (e370 : List Int), (((e372 ++ listOf (⟨#[32, 114, 101, 115, 101, 116]⟩ : ByteArray)).length = e370.length ∧ (e372 ++ listOf (⟨#[32, 114, 101, 115, 101, 116]⟩ : ByteArray)).length = e370.length ∧ tG (e372 ++ listOf (⟨#[32, 114, 101, 115, 101, 116]⟩ : ByteArray)) = tG e370) ∧ e370.length + 1 ≤ 1099511627776) ∧ (Br (decide (0 ≤ (↑n : Int)) && (decide ((↑n : Int) ≤ (↑n : Int)) && decide ((↑n : Int) ≤ (↑n : Int)))) (K Ex.normal { tmps := [(0, SV.yld 0), (1, SV.ptr 3 0)], store := [(0, some (prL)), (1, some (SB.cells 63 [SV.ptr 1 0, SV.own 4 0 1 (e370 ++ listOf (⟨#[10]⟩ : ByteArray)).length])), (3, some (SB.cells 23 [SV.ro ((↑n : Int).toNat - (↑n : Int).toNat) 7 fun (i : Nat) => ctG X (i + (↑n : Int).toNat)])), (4, some (SB.row 5 1 (e370 ++ listOf (⟨#[10]⟩ : ByteArray)).length (tG (e370 ++ listOf (⟨#[10]⟩ : ByteArray)))))], nxt := 5, dirty := [0, 1, 2, 3, 4, 5, 6, 7], nt := 26 }) (False)))) (∃ (e372 : List Int), (((e376 ++ listOf ((⟨#[32]⟩ : ByteArray) ++ bytesOf (wholeL (X (Int.toNat 0)).g))).length = e372.length ∧ (e376 ++ listOf ((⟨#[32]⟩ : ByteArray) ++ bytesOf (wholeL (X (Int.toNat 0)).g))).length = e372.length ∧ tG (e376 ++ listOf ((⟨#[32]⟩ : ByteArray) ++ bytesOf (wholeL (X (Int.toNat 0)).g))) = tG e372) ∧ e372.length + 1 ≤ 1099511627776) ∧ (Br (decide (0 ≤ (↑n : Int)) && (decide ((↑n : Int) ≤ (↑n : Int)) && decide ((↑n : Int) ≤ (↑n : Int)))) (K Ex.normal { tmps := [(0, SV.yld 0), (1, SV.ptr 3 0)], store := [(0, some (prL)), (1, some (SB.cells 63 [SV.ptr 1 0, SV.own 4 0 1 (e372 ++ listOf (⟨#[10]⟩ : ByteArray)).length])), (3, some (SB.cells 23 [SV.ro ((↑n : Int).toNat - (↑n : Int).toNat) 7 fun (i : Nat) => ctG X (i + (↑n : Int).toNat)])), (4, some (SB.row 5 1 (e372 ++ listOf (⟨#[10]⟩ : ByteArray)).length (tG (e372 ++ listOf (⟨#[10]⟩ : ByteArray)))))], nxt := 5, dirty := [0, 1, 2, 3, 4, 5, 6, 7], nt := 26 }) (False)))))) (False))) (False))) (False))) (False))) (False))) (False))) (∃ (e394 : List Int), ((l.length = e394.length ∧ l.length = e394.length ∧ tG l = tG e394) ∧ e394.length + 2 ≤ 1099511627776) ∧ (Br (decide (1 + (bytesOf (wholeL (ixFrom (fun (i : Nat) => !eqCt (e398 i) e397) n 0))).size < 9223372036854775808)) (∃ (e391 : List Int), (((e394 ++ listOf (⟨#[100, 111]⟩ : ByteArray)).length = e391.length ∧ (e394 ++ listOf (⟨#[100, 111]⟩ : ByteArray)).length = e391.length ∧ tG (e394 ++ listOf (⟨#[100, 111]⟩ : ByteArray)) = tG e391) ∧ e391.length + ((⟨#[32]⟩ : ByteArray) ++ bytesOf (wholeL (ixFrom (fun (i : Nat) => !eqCt (e398 i) e397) n 0))).size ≤ 1099511627776) ∧ (Br (decide (1 + (bytesOf (wholeL (X (Int.toNat 0)).t)).size < 9223372036854775808)) (∃ (e388 : List Int), (((e391 ++ listOf ((⟨#[32]⟩ : ByteArray) ++ bytesOf (wholeL (ixFrom (fun (i : Nat) => !eqCt (e398 i) e397) n 0)))).length = e388.length ∧ (e391 ++ listOf ((⟨#[32]⟩ : ByteArray) ++ bytesOf (wholeL (ixFrom (fun (i : Nat) => !eqCt (e398 i) e397) n 0)))).length = e388.length ∧ tG (e391 ++ listOf ((⟨#[32]⟩ : ByteArray) ++ bytesOf (wholeL (ixFrom (fun (i : Nat) => !eqCt (e398 i) e397) n 0)))) = tG e388) ∧ e388.length + ((⟨#[32]⟩ : ByteArray) ++ bytesOf (wholeL (X (Int.toNat 0)).t)).size ≤ 1099511627776) ∧ (Br (decide (1 + (bytesOf (wholeL (X (Int.toNat 0)).b)).size < 9223372036854775808)) (∃ (e385 : List Int), (((e388 ++ listOf ((⟨#[32]⟩ : ByteArray) ++ bytesOf (wholeL (X (Int.toNat 0)).t))).length = e385.length ∧ (e388 ++ listOf ((⟨#[32]⟩ : ByteArray) ++ bytesOf (wholeL (X (Int.toNat 0)).t))).length = e385.length ∧ tG (e388 ++ listOf ((⟨#[32]⟩ : ByteArray) ++ bytesOf (wholeL (X (Int.toNat 0)).t))) = tG e385) ∧ e385.length + ((⟨#[32]⟩ : ByteArray) ++ bytesOf (wholeL (X (Int.toNat 0)).b)).size ≤ 1099511627776) ∧ (Br (decide (1 + (bytesOf (wholeL (X (Int.toNat 0)).c)).size < 9223372036854775808)) (∃ (e382 : List Int), (((e385 ++ listOf ((⟨#[32]⟩ : ByteArray) ++ bytesOf (wholeL (X (Int.toNat 0)).b))).length = e382.length ∧ (e385 ++ listOf ((⟨#[32]⟩ : ByteArray) ++ bytesOf (wholeL (X (Int.toNat 0)).b))).length = e382.length ∧ tG (e385 ++ listOf ((⟨#[32]⟩ : ByteArray) ++ bytesOf (wholeL (X (Int.toNat 0)).b))) = tG e382) ∧ e382.length + ((⟨#[32]⟩ : ByteArray) ++ bytesOf (wholeL (X (Int.toNat 0)).c)).size ≤ 1099511627776) ∧ (Br (decide (1 + (bytesOf (wholeL (X (Int.toNat 0)).s)).size < 9223372036854775808)) (∃ (e379 : List Int), (((e382 ++ listOf ((⟨#[32]⟩ : ByteArray) ++ bytesOf (wholeL (X (Int.toNat 0)).c))).length = e379.length ∧ (e382 ++ listOf ((⟨#[32]⟩ : ByteArray) ++ bytesOf (wholeL (X (Int.toNat 0)).c))).length = e379.length ∧ tG (e382 ++ listOf ((⟨#[32]⟩ : ByteArray) ++ bytesOf (wholeL (X (Int.toNat 0)).c))) = tG e379) ∧ e379.length + ((⟨#[32]⟩ : ByteArray) ++ bytesOf (wholeL (X (Int.toNat 0)).s)).size ≤ 1099511627776) ∧ (Br (decide (1 + (bytesOf (wholeL (X (Int.toNat 0)).g)).size < 9223372036854775808)) (∃ (e376 : List Int), (((e379 ++ listOf ((⟨#[32]⟩ : ByteArray) ++ bytesOf (wholeL (X (Int.toNat 0)).s))).length = e376.length ∧ (e379 ++ listOf ((⟨#[32]⟩ : ByteArray) ++ bytesOf (wholeL (X (Int.toNat 0)).s))).length = e376.length ∧ tG (e379 ++ listOf ((⟨#[32]⟩ : ByteArray) ++ bytesOf (wholeL (X (Int.toNat 0)).s))) = tG e376) ∧ e376.length + ((⟨#[32]⟩ : ByteArray) ++ bytesOf (wholeL (X (Int.toNat 0)).g)).size ≤ 1099511627776) ∧ (Br ((X (Int.toNat 0)).a) (∃ (e373 : List Int), (((e376 ++ listOf ((⟨#[32]⟩ : ByteArray) ++ bytesOf (wholeL (X (Int.toNat 0)).g))).length = e373.length ∧ (e376 ++ listOf ((⟨#[32]⟩ : ByteArray) ++ bytesOf (wholeL (X (Int.toNat 0)).g))).length = e373.length ∧ tG (e376 ++ listOf ((⟨#[32]⟩ : ByteArray) ++ bytesOf (wholeL (X (Int.toNat 0)).g))) = tG e373) ∧ e373.length + 5 ≤ 1099511627776) ∧ (Br ((X (Int.toNat 0)).r) (∃ (e370 : List Int), (((e373 ++ listOf (⟨#[32, 97, 117, 116, 111]⟩ : ByteArray)).length = e370.length ∧ (e373 ++ listOf (⟨#[32, 97, 117, 116, 111]⟩ : ByteArray)).length = e370.length ∧ tG (e373 ++ listOf (⟨#[32, 97, 117, 116, 111]⟩ : ByteArray)) = tG e370) ∧ e370.length + 6 ≤ 1099511627776) ∧ (∃ (e368 : List Int), (((e370 ++ listOf (⟨#[32, 114, 101, 115, 101, 116]⟩ : ByteArray)).length = e368.length ∧ (e370 ++ listOf (⟨#[32, 114, 101, 115, 101, 116]⟩ : ByteArray)).length = e368.length ∧ tG (e370 ++ listOf (⟨#[32, 114, 101, 115, 101, 116]⟩ : ByteArray)) = tG e368) ∧ e368.length + 1 ≤ 1099511627776) ∧ (Br (decide (0 ≤ ixFrom (fun (i : Nat) => !eqCt (e398 i) e397) n 0) && (decide (ixFrom (fun (i : Nat) => !eqCt (e398 i) e397) n 0 ≤ (↑n : Int)) && decide ((↑n : Int) ≤ (↑n : Int)))) (K Ex.normal { tmps := [(0, SV.yld 0), (1, SV.ptr 3 0)], store := [(0, some (prL)), (1, some (SB.cells 63 [SV.ptr 1 0, SV.own 4 0 1 (e368 ++ listOf (⟨#[10]⟩ : ByteArray)).length])), (3, some (SB.cells 23 [SV.ro ((↑n : Int).toNat - (ixFrom (fun (i : Nat) => !eqCt (e398 i) e397) n 0).toNat) 7 fun (i : Nat) => ctG X (i + (ixFrom (fun (i : Nat) => !eqCt (e398 i) e397) n 0).toNat)])), (4, some (SB.row 5 1 (e368 ++ listOf (⟨#[10]⟩ : ByteArray)).length (tG (e368 ++ listOf (⟨#[10]⟩ : ByteArray)))))], nxt := 5, dirty := [0, 1, 2, 3, 4, 5, 6, 7], nt := 26 }) (False)))) (∃ (e370 : List Int), (((e373 ++ listOf (⟨#[32, 97, 117, 116, 111]⟩ : ByteArray)).length = e370.length ∧ (e373 ++ listOf (⟨#[32, 97, 117, 116, 111]⟩ : ByteArray)).length = e370.length ∧ tG (e373 ++ listOf (⟨#[32, 97, 117, 116, 111]⟩ : ByteArray)) = tG e370) ∧ e370.length + 1 ≤ 1099511627776) ∧ (Br (decide (0 ≤ ixFrom (fun (i : Nat) => !eqCt (e398 i) e397) n 0) && (decide (ixFrom (fun (i : Nat) => !eqCt (e398 i) e397) n 0 ≤ (↑n : Int)) && decide ((↑n : Int) ≤ (↑n : Int)))) (K Ex.normal { tmps := [(0, SV.yld 0), (1, SV.ptr 3 0)], store := [(0, some (prL)), (1, some (SB.cells 63 [SV.ptr 1 0, SV.own 4 0 1 (e370 ++ listOf (⟨#[10]⟩ : ByteArray)).length])), (3, some (SB.cells 23 [SV.ro ((↑n : Int).toNat - (ixFrom (fun (i : Nat) => !eqCt (e398 i) e397) n 0).toNat) 7 fun (i : Nat) => ctG X (i + (ixFrom (fun (i : Nat) => !eqCt (e398 i) e397) n 0).toNat)])), (4, some (SB.row 5 1 (e370 ++ listOf (⟨#[10]⟩ : ByteArray)).length (tG (e370 ++ listOf (⟨#[10]⟩ : ByteArray)))))], nxt := 5, dirty := [0, 1, 2, 3, 4, 5, 6, 7], nt := 26 }) (False))))) (Br ((X (Int.toNat 0)).r) (∃ (e372 : List Int), (((e376 ++ listOf ((⟨#[32]⟩ : ByteArray) ++ bytesOf (wholeL (X (Int.toNat 0)).g))).length = e372.length ∧ (e376 ++ listOf ((⟨#[32]⟩ : ByteArray) ++ bytesOf (wholeL (X (Int.toNat 0)).g))).length = e372.length ∧ tG (e376 ++ listOf ((⟨#[32]⟩ : ByteArray) ++ bytesOf (wholeL (X (Int.toNat 0)).g))) = tG e372) ∧ e372.length + 6 ≤ 1099511627776) ∧ (∃ (e370 : List Int), (((e372 ++ listOf (⟨#[32, 114, 101, 115, 101, 116]⟩ : ByteArray)).length = e370.length ∧ (e372 ++ listOf (⟨#[32, 114, 101, 115, 101, 116]⟩ : ByteArray)).length = e370.length ∧ tG (e372 ++ listOf (⟨#[32, 114, 101, 115, 101, 116]⟩ : ByteArray)) = tG e370) ∧ e370.length + 1 ≤ 1099511627776) ∧ (Br (decide (0 ≤ ixFrom (fun (i : Nat) => !eqCt (e398 i) e397) n 0) && (decide (ixFrom (fun (i : Nat) => !eqCt (e398 i) e397) n 0 ≤ (↑n : Int)) && decide ((↑n : Int) ≤ (↑n : Int)))) (K Ex.normal { tmps := [(0, SV.yld 0), (1, SV.ptr 3 0)], store := [(0, some (prL)), (1, some (SB.cells 63 [SV.ptr 1 0, SV.own 4 0 1 (e370 ++ listOf (⟨#[10]⟩ : ByteArray)).length])), (3, some (SB.cells 23 [SV.ro ((↑n : Int).toNat - (ixFrom (fun (i : Nat) => !eqCt (e398 i) e397) n 0).toNat) 7 fun (i : Nat) => ctG X (i + (ixFrom (fun (i : Nat) => !eqCt (e398 i) e397) n 0).toNat)])), (4, some (SB.row 5 1 (e370 ++ listOf (⟨#[10]⟩ : ByteArray)).length (tG (e370 ++ listOf (⟨#[10]⟩ : ByteArray)))))], nxt := 5, dirty := [0, 1, 2, 3, 4, 5, 6, 7], nt := 26 }) (False)))) (∃ (e372 : List Int), (((e376 ++ listOf ((⟨#[32]⟩ : ByteArray) ++ bytesOf (wholeL (X (Int.toNat 0)).g))).length = e372.length ∧ (e376 ++ listOf ((⟨#[32]⟩ : ByteArray) ++ bytesOf (wholeL (X (Int.toNat 0)).g))).length = e372.length ∧ tG (e376 ++ listOf ((⟨#[32]⟩ : ByteArray) ++ bytesOf (wholeL (X (Int.toNat 0)).g))) = tG e372) ∧ e372.length + 1 ≤ 1099511627776) ∧ (Br (decide (0 ≤ ixFrom (fun (i : Nat) => !eqCt (e398 i) e397) n 0) && (decide (ixFrom (fun (i : Nat) => !eqCt (e398 i) e397) n 0 ≤ (↑n : Int)) && decide ((↑n : Int) ≤ (↑n : Int)))) (K Ex.normal { tmps := [(0, SV.yld 0), (1, SV.ptr 3 0)], store := [(0, some (prL)), (1, some (SB.cells 63 [SV.ptr 1 0, SV.own 4 0 1 (e372 ++ listOf (⟨#[10]⟩ : ByteArray)).length])), (3, some (SB.cells 23 [SV.ro ((↑n : Int).toNat - (ixFrom (fun (i : Nat) => !eqCt (e398 i) e397) n 0).toNat) 7 fun (i : Nat) => ctG X (i + (ixFrom (fun (i : Nat) => !eqCt (e398 i) e397) n 0).toNat)])), (4, some (SB.row 5 1 (e372 ++ listOf (⟨#[10]⟩ : ByteArray)).length (tG (e372 ++ listOf (⟨#[10]⟩ : ByteArray)))))], nxt := 5, dirty := [0, 1, 2, 3, 4, 5, 6, 7], nt := 26 }) (False)))))) (False))) (False))) (False))) (False))) (False))) (False))))) (False)) (K (Ex.exit 0) { tmps := [(0, SV.yld 0), (1, SV.ptr 3 0)], store := [(0, some (prL)), (1, some (SB.cells 63 [SV.ptr 1 0, SV.own 4 0 1 l.length])), (3, some (SB.cells 23 [SV.ro n 7 (ctG X)])), (4, some (SB.row 5 1 l.length (tG l)))], nxt := 5, dirty := [0, 1, 2, 3, 4, 5, 6, 7], nt := 26 })) := by kernel_rfl
theorem pn_after (n : Nat) (X : Nat → Ct) (l : List Int) (K : KC) : afterE rnE (keepP prR 4) rnF [0] 4 K (.exit 0) (pnS n X l) =
  (K (SV.tup []) [some (prL), some (SB.cells 63 [SV.ptr 1 0, SV.own 4 0 1 l.length]), none, some (SB.cells 23 [SV.ro n 7 (ctG X)]), some (SB.row 5 1 l.length (tG l))] [0, 1, 2, 3]) := by kernel_rfl
theorem pn_step (n : Nat) (X : Nat → Ct) (l : List Int) (hn : 0 < n) (hm : n ≤ 16777216) (hl : l.length ≤ 4000000000) {KK : Ex → St → Prop} {N : St → Prop}
    (hN : N (pnS (n - runK X n) (fun i => X (i + runK X n)) (l ++ rnT (runK X n) (X 0)))) : roundE rnE (keepP prR 4) rnF [0] 0 (nextK N KK) (pnS n X l) := by
  rw [pn_round]
  refine Br.of (fun _ => Br.of (fun _ => ⟨X, X 0, ⟨rfl, rfl⟩, ?_⟩) fun f => absurd f (by simp; omega)) fun f => absurd (of_decide_eq_false f) (by omega)
  have hk := runK_le (Y := X) (m := n)
  by_cases hlt : runK X n < n
  · have hix : ixFrom (fun i => !eqCt (X i) (X 0)) n 0 = (runK X n : Int) := by
      show (bif decide (runK X n < n) then (runK X n : Int) else -1) = _
      rw [decide_eq_true hlt]; rfl
    rw [hix]
    generalize runK X n = k at *
    refine Br.of (fun f => absurd (of_decide_eq_true f) (by omega)) fun _ => ?_
    · refine wstep0 (by omega) ?_
      refine numstep (B := 4000000000) hl (by decide) (by decide) fun b1 => ?_
      refine numstep b1 (sp_size _) (by decide) fun b2 => ?_
      refine numstep b2 (sp_size _) (by decide) fun b3 => ?_
      refine numstep b3 (sp_size _) (by decide) fun b4 => ?_
      refine numstep b4 (sp_size _) (by decide) fun b5 => ?_
      refine numstep b5 (sp_size _) (by decide) fun b6 => ?_
      refine Br.of (fun ha => wstep b6 (sp_size _) (by decide) (by decide) fun b7 => Br.of (fun hr => wstep b7 (by decide) (by decide) (by decide) fun b8 => wstep b8 (by decide) (by decide) (by decide) fun b9 => ?_) fun hr => wstep b7 (by decide) (by decide) (by decide) fun b8 => ?_) fun ha => Br.of (fun hr => wstep b6 (sp_size _) (by decide) (by decide) fun b7 => wstep b7 (by decide) (by decide) (by decide) fun b8 => ?_) fun hr => wstep b6 (sp_size _) (by decide) (by decide) fun b7 => ?_
      all_goals
        refine Br.of (fun _ => ?_) fun f => absurd f (by simp <;> omega)
        simp only [Int.toNat_zero] at ha hr
        unfold rnT flagT at hN
        rw [ha, hr] at hN
        simp only [list_sp, List.append_assoc, cond_true, cond_false, List.nil_append, Int.toNat_natCast, Int.toNat_zero] at hN ⊢
        exact hN
  · have hix : ixFrom (fun i => !eqCt (X i) (X 0)) n 0 = -1 := by
      show (bif decide (runK X n < n) then (runK X n : Int) else -1) = _
      rw [decide_eq_false hlt]; rfl
    rw [hix]
    have hkn : runK X n = n := by omega
    rw [hkn] at hN
    refine Br.of (fun _ => ?_) fun f => absurd (of_decide_eq_false f) (by omega)
    · refine wstep0 (by omega) ?_
      refine numstep (B := 4000000000) hl (by decide) (by decide) fun b1 => ?_
      refine numstep b1 (sp_size _) (by decide) fun b2 => ?_
      refine numstep b2 (sp_size _) (by decide) fun b3 => ?_
      refine numstep b3 (sp_size _) (by decide) fun b4 => ?_
      refine numstep b4 (sp_size _) (by decide) fun b5 => ?_
      refine numstep b5 (sp_size _) (by decide) fun b6 => ?_
      refine Br.of (fun ha => wstep b6 (sp_size _) (by decide) (by decide) fun b7 => Br.of (fun hr => wstep b7 (by decide) (by decide) (by decide) fun b8 => wstep b8 (by decide) (by decide) (by decide) fun b9 => ?_) fun hr => wstep b7 (by decide) (by decide) (by decide) fun b8 => ?_) fun ha => Br.of (fun hr => wstep b6 (sp_size _) (by decide) (by decide) fun b7 => wstep b7 (by decide) (by decide) (by decide) fun b8 => ?_) fun hr => wstep b6 (sp_size _) (by decide) (by decide) fun b7 => ?_
      all_goals
        refine Br.of (fun _ => ?_) fun f => absurd f (by simp <;> omega)
        simp only [Int.toNat_zero] at ha hr
        unfold rnT flagT at hN
        rw [ha, hr] at hN
        simp only [list_sp, List.append_assoc, cond_true, cond_false, List.nil_append, Int.toNat_natCast, Int.toNat_zero] at hN ⊢
        exact hN
theorem pn_law (n : Nat) (X : Nat → Ct) (l0 : List Int) (hm : n ≤ 16777216) (hl : l0.length ≤ 100) (K : KC)
    (hK : K (.tup []) [some prL, some (.cells sbT [.ptr 1 0, .own 4 0 1 (l0 ++ textS X n 0).length]), none, some (.cells csT [.ro 0 7 (ctG fun i => X (i + n))]), some (.row 5 1 (l0 ++ textS X n 0).length (tG (l0 ++ textS X n 0)))] [0, 1, 2, 3]) :
    runP prR prU c4 4 83 [.yld 0, .ptr 3 0] [some prL, some (.cells sbT [.ptr 1 0, .own 2 0 1 l0.length]), some (.row 5 1 l0.length (tG l0)), some (.cells csT [.ro n 7 (ctG X)])] K := by
  rw [pn_entry]
  refine ⟨n + 1, loop_m (fun a : Nat × List Int => pnS (n - a.1) (fun i => X (i + a.1)) a.2) (fun a => n - a.1) (fun a => a.1 ≤ n ∧ a.2 ++ textS X n a.1 = l0 ++ textS X n 0 ∧ a.2.length ≤ 100 + 160 * a.1) ?_ (n + 1) (0, l0) ⟨Nat.zero_le _, rfl, hl⟩ (by show n - 0 < _; omega)⟩
  rintro ⟨p, l⟩ ⟨h1, h2, h3⟩ Y hY
  simp only at h1 h2 h3 hY ⊢
  by_cases hp : p < n
  · refine pn_step (n - p) (fun i => X (i + p)) l (by omega) (by omega) (by omega) ?_
    have k1 := rnN_pos (X := X) hp
    have k2 := rnN_le (X := X) (n := n) (p := p)
    have k3 := rnT_len (rnN X n p) (X p)
    have := hY (p + rnN X n p, l ++ rnT (rnN X n p) (X p)) ⟨by show p + rnN X n p ≤ n; omega, by show (l ++ rnT (rnN X n p) (X p)) ++ textS X n (p + rnN X n p) = _; rw [List.append_assoc, ← textS_step hp]; exact h2, by show (l ++ rnT (rnN X n p) (X p)).length ≤ 100 + 160 * (p + rnN X n p); rw [List.length_append]; omega⟩ (by show n - (p + rnN X n p) < n - p; omega)
    show Y (pnS (n - p - rnN X n p) (fun i => X (i + rnN X n p + p)) (l ++ rnT (rnN X n p) (X (0 + p))))
    rw [Nat.zero_add, Nat.sub_sub, show (fun i => X (i + rnN X n p + p)) = fun i => X (i + (p + rnN X n p)) from funext fun i => by rw [Nat.add_assoc, Nat.add_comm p]]
    exact this
  · obtain rfl : p = n := by omega
    rw [pn_round]
    refine Br.of (fun c => absurd (of_decide_eq_true c) (by omega)) fun _ => ?_
    show afterE rnE (keepP prR 4) rnF [0] 4 K (.exit 0) (pnS (p - p) (fun i => X (i + p)) l)
    rw [pn_after, Nat.sub_self]
    rw [textS_end (Nat.le_refl p), List.append_nil] at h2
    rw [h2]; exact hK
def cRn : List SV → List (Option SB) → KC → Prop
  | [.yld 0, .ptr 3 0], [some rec, some (.cells 63 [.ptr 1 0, .own 2 0 1 m]), some (.row 5 1 m' g), some (.cells 23 [.ro n 7 h])], K =>
    ∃ (X : Nat → Ct) (l : List Int), ((rec = prL ∧ m = l.length ∧ m' = l.length ∧ g = tG l ∧ h = ctG X) ∧ n ≤ 16777216 ∧ l.length ≤ 100) ∧
      K (.tup []) [some prL, some (.cells 63 [.ptr 1 0, .own 4 0 1 (l ++ textS X n 0).length]), none, some (.cells 23 [.ro 0 7 (ctG fun i => X (i + n))]), some (.row 5 1 (l ++ textS X n 0).length (tG (l ++ textS X n 0)))] [0, 1, 2, 3]
  | _, _, _ => False
theorem rn_sat (xs : List SV) (σ : List (Option SB)) : Sat Tryd.prog 83 xs σ (cRn xs σ) := by
  intro K hK
  unfold cRn at hK
  split at hK
  case h_2 => exact hK.elim
  obtain ⟨X, l, ⟨⟨rfl, rfl, rfl, rfl, rfl⟩, h1, h2⟩, hK⟩ := hK
  refine ⟨_, _, _, hK, runP_ok prR prU c4 4 (fun p h => ?_) fun _ _ K hK => pn_law _ X l h1 h2 K (hK _ fun _ h => h)⟩
  show p < 4
  simp only [List.mem_cons, List.not_mem_nil, or_false] at h
  omega
noncomputable def c5 : Know Tryd.prog := (c4).add 83 cRn rn_sat
theorem pr_nf (n : Nat) (X : Nat → Ct) (K : KC) : run c5 3 14 [.ro n 7 (ctG X)] [] K =
  (Br (decide ((↑n : Int) > 16777216)) (K (SV.tup [SV.str (⟨#[]⟩ : ByteArray), SV.int .i64 42]) [] []) (∃ (e399 : Nat → Ct), (ctG X = ctG e399) ∧ (Br (decide (ixFrom (fun (i : Nat) => rightV (e399 i) != 0) n 0 ≥ 0)) (K (SV.tup [SV.str (⟨#[]⟩ : ByteArray), SV.int .i64 40]) [] []) ((0 < 7 ∧ 7 ≤ 1099511627776) ∧ (∃ (e395 : Nat → Ct), ∃ (e394 : List Int), ((prL = prL ∧ 7 = e394.length ∧ 7 = e394.length ∧ tG (listOf (⟨#[115, 99, 114, 105, 112, 116, 10]⟩ : ByteArray)) = tG e394 ∧ ctG X = ctG e395) ∧ n ≤ 16777216 ∧ e394.length ≤ 100) ∧ (∃ (e392 : List Int), (((e394 ++ textS e395 n 0).length = e392.length ∧ (e394 ++ textS e395 n 0).length = e392.length ∧ tG (e394 ++ textS e395 n 0) = tG e392) ∧ e392.length + 4 ≤ 1099511627776) ∧ (Br (decide (0 < (e392 ++ listOf (⟨#[101, 110, 100, 10]⟩ : ByteArray)).length)) ((∀ (i : Nat), i < (↑(e392 ++ listOf (⟨#[101, 110, 100, 10]⟩ : ByteArray)).length : Int).toNat → isByte (tG (e392 ++ listOf (⟨#[101, 110, 100, 10]⟩ : ByteArray)) i) = true) ∧ (Br (decide (0 < (↑(e392 ++ listOf (⟨#[101, 110, 100, 10]⟩ : ByteArray)).length : Int)) && decide ((↑(e392 ++ listOf (⟨#[101, 110, 100, 10]⟩ : ByteArray)).length : Int) ≤ (↑(e392 ++ listOf (⟨#[101, 110, 100, 10]⟩ : ByteArray)).length : Int)) && decide ((↑(e392 ++ listOf (⟨#[101, 110, 100, 10]⟩ : ByteArray)).length : Int) < 9223372036854775808)) (K (SV.tup [SV.str (bytesOf (rowB (↑(e392 ++ listOf (⟨#[101, 110, 100, 10]⟩ : ByteArray)).length : Int).toNat (tG (e392 ++ listOf (⟨#[101, 110, 100, 10]⟩ : ByteArray))))), SV.int .i64 0]) [] []) (False))) (False)))))))) := by kernel_rfl
end Go.Proofs.YtjlmofhokbnloaaDoor

namespace Go.Proofs.YtjlmofhokbnloaaDoor
open Go.Se
set_option maxRecDepth 100000
theorem pr_law (n : Nat) (X : Nat → Ct) (K : KC) (hK : K (.tup [.str (bytesOf (printR X n)), .int .i64 (printE X n)]) [] []) : run c5 3 14 [.ro n 7 (ctG X)] [] K := by
  rw [pr_nf]
  unfold printR printE badIx at hK
  refine Br.of (fun c => ?_) fun c => ⟨X, rfl, Br.of (fun d => ?_) fun d => ?_⟩
  · rw [show decide (n > 16777216) = true by have := of_decide_eq_true c; rw [decide_eq_true_eq]; omega] at hK
    exact hK
  all_goals
    rw [show decide (n > 16777216) = false by have := of_decide_eq_false c; rw [decide_eq_false_iff_not]; omega, d] at hK
  · exact hK
  have c := of_decide_eq_false c
  have hs := textS_len (X := X) (n := n)
  refine ⟨⟨by decide, by decide⟩, X, [115, 99, 114, 105, 112, 116, 10], ⟨⟨rfl, rfl, rfl, rfl, rfl⟩, by omega, by decide⟩, wstep0 (by rw [List.length_append]; show 7 + _ + 4 ≤ _; omega) ?_⟩
  rw [show listOf (⟨#[101, 110, 100, 10]⟩ : ByteArray) = [101, 110, 100, 10] from rfl]
  have e : [115, 99, 114, 105, 112, 116, 10] ++ textS X n 0 ++ [101, 110, 100, 10] = printT X n := rfl
  rw [e]
  have hp : 0 < (printT X n).length := by unfold printT; simp
  have hq : (printT X n).length < 9223372036854775808 := by unfold printT; simp; omega
  rw [Int.toNat_natCast, rowB_tG]
  refine Br.of (fun _ => ⟨fun i _ => rfl, Br.of (fun _ => hK) fun f => absurd f (by simp; omega)⟩) fun f => absurd hp (of_decide_eq_false f)
theorem print_ok (n : Nat) (X : Nat → Ct) : CallOK Tryd.prog 14 [.ro n 7 (ctG X)] [] (.tup [.str (bytesOf (printR X n)), .int .i64 (printE X n)]) [] [] :=
  run_ok c5 3 fun _ _ K hK => pr_law n X K hK
def cPr : List SV → List (Option SB) → KC → Prop
  | [.ro n 7 g], [], K => ∃ X : Nat → Ct, g = ctG X ∧ K (.tup [.str (bytesOf (printR X n)), .int .i64 (printE X n)]) [] []
  | _, _, _ => False
theorem pr_sat (xs : List SV) (σ : List (Option SB)) : Sat Tryd.prog 14 xs σ (cPr xs σ) := by
  intro K hK
  unfold cPr at hK
  split at hK
  case h_2 => exact hK.elim
  obtain ⟨X, rfl, hK⟩ := hK
  exact ⟨_, _, _, hK, print_ok _ X⟩
noncomputable def c6 : Know Tryd.prog := (c5).add 14 cPr pr_sat
end Go.Proofs.YtjlmofhokbnloaaDoor

