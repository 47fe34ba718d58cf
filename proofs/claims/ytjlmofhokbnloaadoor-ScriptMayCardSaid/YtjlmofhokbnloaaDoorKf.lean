import Derived.Test.YtjlmofhokbnloaaDoorKd
import Derived.Test.YtjlmofhokbnloaaDoorSeFrz
namespace Go.Proofs.YtjlmofhokbnloaaDoor
open Go.Se
set_option maxRecDepth 100000
abbrev bkT : TypeId := 105
abbrev rbT : TypeId := 56
theorem clS_nf (n : Nat) (g : Nat → List SV) (K : KC) : run y4 2 71 [.ro n 1 g] [] K =
  (Br (decide (0 < n)) ((∀ (i : Nat), i < n → (g i).length = 1 ∧ (g i).all oneCell = true) ∧ (Br (true && (decide (n * 16 ≤ 1099511627776) && decide (n < 9223372036854775808))) (Br (decide (0 < n)) (K (SV.own 0 0 1 n) [some (SB.row 9 1 n g)] []) (K (SV.arr 0 0 0 0) [some (SB.cells 9 [])] [])) (False))) (False)) := by kernel_rfl
theorem clS_0 (K : KC) : run y4 2 71 [.nils] [] K =
  (K SV.nils [] []) := by kernel_rfl
theorem clS_1 (K : KC) : run y4 2 71 [.emp] [] K =
  (K (SV.arr 0 0 0 0) [some (SB.cells 9 [])] []) := by kernel_rfl
theorem cloneS_ok (p : List (List Int)) (hn : p.length ≤ 1048577) : CallOK Tryd.prog 71 [.ro p.length 1 (strsG p)] [] (.ro p.length 1 (strsG p)) [] [] :=
  callOK_clone (fun i _ => rfl) (fun h0 => run_ok y4 2 fun _ _ K hK => by
      rw [clS_nf]
      exact If.mk (decide_eq_true h0) ⟨fun i _ => ⟨rfl, rfl⟩, If.mk (by simp only [Bool.and_eq_true, decide_eq_true_eq, Bool.true_and]; omega) (Br.of (fun _ => hK) fun c => absurd h0 (of_decide_eq_false c))⟩)
    (run_ok y4 2 fun _ _ K hK => by rw [clS_0]; exact hK) (run_ok y4 2 fun _ _ K hK => by rw [clS_1]; exact hK)
def cCloneS : List SV → List (Option SB) → KC → Prop
  | xs, [], K => ∃ p : List (List Int), (xs = [.ro p.length 1 (strsG p)] ∧ p.length ≤ 1048577) ∧ K (.ro p.length 1 (strsG p)) [] []
  | _, _ :: _, _ => False
theorem cloneS_sat (xs : List SV) (σ : List (Option SB)) : Sat Tryd.prog 71 xs σ (cCloneS xs σ) := by
  intro K hK
  cases σ with
  | nil => obtain ⟨p, ⟨rfl, hp⟩, hK⟩ := hK; exact ⟨_, _, _, hK, cloneS_ok p hp⟩
  | cons a l => exact hK.elim
noncomputable def y5 : Know Tryd.prog := (y4).add 71 cCloneS cloneS_sat
theorem take_nf (b : Bk) (all lo hi : Int) (w : ByteArray) (K : KC) : run y5 3 29 [.ptr 0 0, .str w, .int .i64 lo, .int .i64 hi] [some (.cells bkT (bkC all b))] K =
  (Br (!b.err == 0) (K SV.nils [some (SB.cells 105 [SV.ro b.q.length 2 (qG b.q), SV.int .i64 all, SV.int .i64 b.last, SV.int .i64 b.err, SV.int .i64 b.place])] []) (Br ((↑b.q.length : Int) == 0) (Br (b.err == 0) (K SV.nils [some (SB.cells 105 [SV.ro b.q.length 2 (qG b.q), SV.int .i64 all, SV.int .i64 b.last, SV.int .i64 20, SV.int .i64 (IntKind.i64.wrap (all + 1))])] [0]) (K SV.nils [some (SB.cells 105 [SV.ro b.q.length 2 (qG b.q), SV.int .i64 all, SV.int .i64 b.last, SV.int .i64 b.err, SV.int .i64 b.place])] [])) (Br (true && decide (0 < (↑b.q.length : Int))) (Br (true && decide (0 < (↑(b.q.getD (Int.toNat 0) (0, [])).snd.length : Int))) (Br (!bytesOf ((b.q.getD (Int.toNat 0) (0, [])).snd.getD (Int.toNat 0) []) == w) (Br (b.err == 0) (K SV.nils [some (SB.cells 105 [SV.ro b.q.length 2 (qG b.q), SV.int .i64 all, SV.int .i64 b.last, SV.int .i64 21, SV.int .i64 (b.q.getD (Int.toNat 0) (0, [])).fst])] [0]) (K SV.nils [some (SB.cells 105 [SV.ro b.q.length 2 (qG b.q), SV.int .i64 all, SV.int .i64 b.last, SV.int .i64 b.err, SV.int .i64 b.place])] [])) (Br (decide (IntKind.i64.wrap ((↑(b.q.getD (Int.toNat 0) (0, [])).snd.length : Int) - 1) < lo)) (Br (b.err == 0) (K SV.nils [some (SB.cells 105 [SV.ro b.q.length 2 (qG b.q), SV.int .i64 all, SV.int .i64 b.last, SV.int .i64 22, SV.int .i64 (b.q.getD (Int.toNat 0) (0, [])).fst])] [0]) (K SV.nils [some (SB.cells 105 [SV.ro b.q.length 2 (qG b.q), SV.int .i64 all, SV.int .i64 b.last, SV.int .i64 b.err, SV.int .i64 b.place])] [])) (Br (decide (IntKind.i64.wrap ((↑(b.q.getD (Int.toNat 0) (0, [])).snd.length : Int) - 1) > hi)) (Br (b.err == 0) (K SV.nils [some (SB.cells 105 [SV.ro b.q.length 2 (qG b.q), SV.int .i64 all, SV.int .i64 b.last, SV.int .i64 22, SV.int .i64 (b.q.getD (Int.toNat 0) (0, [])).fst])] [0]) (K SV.nils [some (SB.cells 105 [SV.ro b.q.length 2 (qG b.q), SV.int .i64 all, SV.int .i64 b.last, SV.int .i64 b.err, SV.int .i64 b.place])] [])) (Br (true && (decide (1 ≤ (↑b.q.length : Int)) && decide ((↑b.q.length : Int) ≤ (↑b.q.length : Int)))) (Br (true && (decide (1 ≤ (↑(b.q.getD (Int.toNat 0) (0, [])).snd.length : Int)) && decide ((↑(b.q.getD (Int.toNat 0) (0, [])).snd.length : Int) ≤ (↑(b.q.getD (Int.toNat 0) (0, [])).snd.length : Int)))) (∃ (e391 : List (List Int)), ([SV.ro ((↑(b.q.getD (Int.toNat 0) (0, [])).snd.length : Int).toNat - 1) 1 fun (i : Nat) => strsG (b.q.getD (Int.toNat 0) (0, [])).snd (i + 1)] = [SV.ro e391.length 1 (strsG e391)] ∧ e391.length ≤ 1048577) ∧ (K (SV.ro e391.length 1 (strsG e391)) [some (SB.cells 105 [SV.ro ((↑b.q.length : Int).toNat - 1) 2 fun (i : Nat) => qG b.q (i + 1), SV.int .i64 all, SV.int .i64 (b.q.getD (Int.toNat 0) (0, [])).fst, SV.int .i64 b.err, SV.int .i64 b.place])] [0])) (False)) (False))))) (False)) (False)))) := by kernel_rfl
theorem next_nf (b : Bk) (all : Int) (w : ByteArray) (K : KC) : run y5 3 30 [.ptr 0 0, .str w] [some (.cells bkT (bkC all b))] K =
  (Br (b.err == 0) (Br (decide ((↑b.q.length : Int) > 0)) (Br (true && decide (0 < (↑b.q.length : Int))) (Br (true && decide (0 < (↑(b.q.getD (Int.toNat 0) (0, [])).snd.length : Int))) (K (SV.bool (bytesOf ((b.q.getD (Int.toNat 0) (0, [])).snd.getD (Int.toNat 0) []) == w)) [some (SB.cells 105 [SV.ro b.q.length 2 (qG b.q), SV.int .i64 all, SV.int .i64 b.last, SV.int .i64 b.err, SV.int .i64 b.place])] []) (False)) (False)) (K (SV.bool false) [some (SB.cells 105 [SV.ro b.q.length 2 (qG b.q), SV.int .i64 all, SV.int .i64 b.last, SV.int .i64 b.err, SV.int .i64 b.place])] [])) (K (SV.bool false) [some (SB.cells 105 [SV.ro b.q.length 2 (qG b.q), SV.int .i64 all, SV.int .i64 b.last, SV.int .i64 b.err, SV.int .i64 b.place])] [])) := by kernel_rfl
theorem int_nf (b : Bk) (all lo hi : Int) (s : ByteArray) (K : KC) : run y5 3 73 [.ptr 0 0, .str s, .int .i64 lo, .int .i64 hi] [some (.cells bkT (bkC all b))] K =
  (Br (!b.err == 0) (K (SV.int .i64 0) [some (SB.cells 105 [SV.ro b.q.length 2 (qG b.q), SV.int .i64 all, SV.int .i64 b.last, SV.int .i64 b.err, SV.int .i64 b.place])] []) (Br (wholeE (listOf s) == 0) (Br (decide (wholeV (listOf s) < lo)) (Br (b.err == 0) (K (SV.int .i64 0) [some (SB.cells 105 [SV.ro b.q.length 2 (qG b.q), SV.int .i64 all, SV.int .i64 b.last, SV.int .i64 40, SV.int .i64 b.last])] [0]) (K (SV.int .i64 0) [some (SB.cells 105 [SV.ro b.q.length 2 (qG b.q), SV.int .i64 all, SV.int .i64 b.last, SV.int .i64 b.err, SV.int .i64 b.place])] [])) (Br (decide (wholeV (listOf s) > hi)) (Br (b.err == 0) (K (SV.int .i64 0) [some (SB.cells 105 [SV.ro b.q.length 2 (qG b.q), SV.int .i64 all, SV.int .i64 b.last, SV.int .i64 40, SV.int .i64 b.last])] [0]) (K (SV.int .i64 0) [some (SB.cells 105 [SV.ro b.q.length 2 (qG b.q), SV.int .i64 all, SV.int .i64 b.last, SV.int .i64 b.err, SV.int .i64 b.place])] [])) (Br (b.err == 0) (Br (wholeE (listOf s) != 0) (K (SV.int .i64 (wholeV (listOf s))) [some (SB.cells 105 [SV.ro b.q.length 2 (qG b.q), SV.int .i64 all, SV.int .i64 b.last, SV.int .i64 (wholeE (listOf s)), SV.int .i64 b.last])] [0]) (K (SV.int .i64 (wholeV (listOf s))) [some (SB.cells 105 [SV.ro b.q.length 2 (qG b.q), SV.int .i64 all, SV.int .i64 b.last, SV.int .i64 b.err, SV.int .i64 b.place])] [])) (K (SV.int .i64 (wholeV (listOf s))) [some (SB.cells 105 [SV.ro b.q.length 2 (qG b.q), SV.int .i64 all, SV.int .i64 b.last, SV.int .i64 b.err, SV.int .i64 b.place])] [])))) (Br (b.err == 0) (Br (wholeE (listOf s) != 0) (K (SV.int .i64 (wholeV (listOf s))) [some (SB.cells 105 [SV.ro b.q.length 2 (qG b.q), SV.int .i64 all, SV.int .i64 b.last, SV.int .i64 (wholeE (listOf s)), SV.int .i64 b.last])] [0]) (K (SV.int .i64 (wholeV (listOf s))) [some (SB.cells 105 [SV.ro b.q.length 2 (qG b.q), SV.int .i64 all, SV.int .i64 b.last, SV.int .i64 b.err, SV.int .i64 b.place])] [])) (K (SV.int .i64 (wholeV (listOf s))) [some (SB.cells 105 [SV.ro b.q.length 2 (qG b.q), SV.int .i64 all, SV.int .i64 b.last, SV.int .i64 b.err, SV.int .i64 b.place])] [])))) := by kernel_rfl
theorem one1_nf (b : Bk) (all : Int) (s a : ByteArray) (t : TypeId) (K : KC) : runU 3 y5 3 74 [.ptr 0 0, .str s, .arr 1 0 1 1] [some (.cells bkT (bkC all b)), some (.cells t [.str a])] K =
  (Br (!b.err == 0) (K (SV.int .i64 0) [some (SB.cells 105 [SV.ro b.q.length 2 (qG b.q), SV.int .i64 all, SV.int .i64 b.last, SV.int .i64 b.err, SV.int .i64 b.place]), some (SB.cells t [SV.str a])] []) (Br (s == a) (K (SV.int .i64 0) [some (SB.cells 105 [SV.ro b.q.length 2 (qG b.q), SV.int .i64 all, SV.int .i64 b.last, SV.int .i64 b.err, SV.int .i64 b.place]), some (SB.cells t [SV.str a])] []) (Br (b.err == 0) (K (SV.int .i64 0) [some (SB.cells 105 [SV.ro b.q.length 2 (qG b.q), SV.int .i64 all, SV.int .i64 b.last, SV.int .i64 24, SV.int .i64 b.last]), some (SB.cells t [SV.str a])] [0]) (K (SV.int .i64 0) [some (SB.cells 105 [SV.ro b.q.length 2 (qG b.q), SV.int .i64 all, SV.int .i64 b.last, SV.int .i64 b.err, SV.int .i64 b.place]), some (SB.cells t [SV.str a])] [])))) := by kernel_rfl
theorem one2_nf (b : Bk) (all : Int) (s a c : ByteArray) (t : TypeId) (K : KC) : runU 4 y5 3 74 [.ptr 0 0, .str s, .arr 1 0 2 2] [some (.cells bkT (bkC all b)), some (.cells t [.str a, .str c])] K =
  (Br (!b.err == 0) (K (SV.int .i64 0) [some (SB.cells 105 [SV.ro b.q.length 2 (qG b.q), SV.int .i64 all, SV.int .i64 b.last, SV.int .i64 b.err, SV.int .i64 b.place]), some (SB.cells t [SV.str a, SV.str c])] []) (Br (s == a) (K (SV.int .i64 0) [some (SB.cells 105 [SV.ro b.q.length 2 (qG b.q), SV.int .i64 all, SV.int .i64 b.last, SV.int .i64 b.err, SV.int .i64 b.place]), some (SB.cells t [SV.str a, SV.str c])] []) (Br (s == c) (K (SV.int .i64 1) [some (SB.cells 105 [SV.ro b.q.length 2 (qG b.q), SV.int .i64 all, SV.int .i64 b.last, SV.int .i64 b.err, SV.int .i64 b.place]), some (SB.cells t [SV.str a, SV.str c])] []) (Br (b.err == 0) (K (SV.int .i64 0) [some (SB.cells 105 [SV.ro b.q.length 2 (qG b.q), SV.int .i64 all, SV.int .i64 b.last, SV.int .i64 24, SV.int .i64 b.last]), some (SB.cells t [SV.str a, SV.str c])] [0]) (K (SV.int .i64 0) [some (SB.cells 105 [SV.ro b.q.length 2 (qG b.q), SV.int .i64 all, SV.int .i64 b.last, SV.int .i64 b.err, SV.int .i64 b.place]), some (SB.cells t [SV.str a, SV.str c])] []))))) := by kernel_rfl
theorem shape_nf (b : Bk) (all : Int) (K : KC) : run y5 3 32 [.ptr 0 0] [some (.cells bkT (bkC all b))] K =
  (Br (b.err == 0) (Br (b.err == 0) (K (SV.tup []) [some (SB.cells 105 [SV.ro b.q.length 2 (qG b.q), SV.int .i64 all, SV.int .i64 b.last, SV.int .i64 42, SV.int .i64 b.last])] [0]) (K (SV.tup []) [some (SB.cells 105 [SV.ro b.q.length 2 (qG b.q), SV.int .i64 all, SV.int .i64 b.last, SV.int .i64 b.err, SV.int .i64 b.place])] [])) (K (SV.tup []) [some (SB.cells 105 [SV.ro b.q.length 2 (qG b.q), SV.int .i64 all, SV.int .i64 b.last, SV.int .i64 b.err, SV.int .i64 b.place])] [])) := by kernel_rfl
theorem end_nf (b : Bk) (all : Int) (K : KC) : run y5 3 35 [.ptr 0 0] [some (.cells bkT (bkC all b))] K =
  (Br (decide ((↑b.q.length : Int) > 0)) (Br (true && decide (0 < (↑b.q.length : Int))) (Br (b.err == 0) (K (SV.tup [SV.int .i64 23, SV.int .i64 (b.q.getD (Int.toNat 0) (0, [])).fst]) [some (SB.cells 105 [SV.ro b.q.length 2 (qG b.q), SV.int .i64 all, SV.int .i64 b.last, SV.int .i64 23, SV.int .i64 (b.q.getD (Int.toNat 0) (0, [])).fst])] [0]) (K (SV.tup [SV.int .i64 b.err, SV.int .i64 b.place]) [some (SB.cells 105 [SV.ro b.q.length 2 (qG b.q), SV.int .i64 all, SV.int .i64 b.last, SV.int .i64 b.err, SV.int .i64 b.place])] [])) (False)) (K (SV.tup [SV.int .i64 b.err, SV.int .i64 b.place]) [some (SB.cells 105 [SV.ro b.q.length 2 (qG b.q), SV.int .i64 all, SV.int .i64 b.last, SV.int .i64 b.err, SV.int .i64 b.place])] [])) := by kernel_rfl
theorem sub0 : ∀ p : Nat, p ∈ ([] : List Nat) → p ∈ [0] := fun _ h => nomatch h
theorem sub1 : ∀ p : Nat, p ∈ [0] → p ∈ [0] := fun _ h => h
theorem take_law {b : Bk} {all lo hi : Int} {w : ByteArray} {K : KC} (hb : okBk b) (ha : 0 ≤ all ∧ all ≤ 1048577)
    (h1 : takeN b w lo hi = true → ∀ d', (∀ p, p ∈ d' → p ∈ [0]) → K .nils [some (.cells bkT (bkC all (takeB all b w lo hi)))] d')
    (h2 : takeN b w lo hi = false → ∀ d', (∀ p, p ∈ d' → p ∈ [0]) → K (.ro (takeL b).length 1 (strsG (takeL b))) [some (.cells bkT (bkC all (takeB all b w lo hi)))] d') :
    run y5 3 29 [.ptr 0 0, .str w, .int .i64 lo, .int .i64 hi] [some (.cells bkT (bkC all b))] K := by
  rw [take_nf]
  refine Br.of (fun c => ?_) fun c => ?_
  · obtain ⟨t1, t2⟩ := tk_err (w := w) (lo := lo) (hi := hi) (all := all) (b := b) (by simpa using c)
    have := h1 t1 [] sub0
    rw [t2] at this; exact this
  have he : (b.err == 0) = true := by simpa using c
  rw [isEmpty_len]
  have bad : ∀ e a : Int, takeE b w lo hi = e → e ≠ 0 → (bif b.q.isEmpty then all + 1 else (headQ b.q).1) = a → ∀ X : Prop, Br (b.err == 0) (K SV.nils [some (SB.cells bkT [SV.ro b.q.length 2 (qG b.q), SV.int .i64 all, SV.int .i64 b.last, SV.int .i64 e, SV.int .i64 a])] [0]) X := by
    intro e a hT h0 hpl X
    obtain ⟨t1, t2⟩ := tk_bad (all := all) he hT h0
    have := h1 t1 [0] sub1
    rw [t2, hpl] at this
    rw [he]
    exact this
  refine Br.of (fun hq => ?_) fun hq => ?_
  · rw [show IntKind.i64.wrap (all + 1) = all + 1 by rw [wi64]; omega]
    exact bad 20 (all + 1) (by unfold takeE; rw [hq]; rfl) (by decide) (by rw [hq]; rfl) _
  have hne : b.q ≠ [] := fun e => by rw [e] at hq; cases hq
  obtain ⟨l1, l2⟩ := hb.head hne
  have hql : 0 < b.q.length := List.length_pos_iff.2 hne
  have hqall := hb.all
  refine Br.of (fun _ => ?_) fun f => absurd f (by simp only [Bool.true_and, decide_eq_false_iff_not]; omega)
  show Br (true && decide (0 < (((headQ b.q).2.length : Nat) : Int))) _ _
  refine Br.of (fun _ => ?_) fun f => absurd f (by simp only [Bool.true_and, decide_eq_false_iff_not]; omega)
  have hpl : (bif b.q.isEmpty then all + 1 else (headQ b.q).1) = (headQ b.q).1 := by rw [hq]; rfl
  show Br (!bytesOf ((headQ b.q).2.getD 0 []) == w) _ _
  have hE : takeE b w lo hi = bif !(bytesOf ((headQ b.q).2.getD 0 []) == w) then 21 else bif decide ((((headQ b.q).2.length : Int) - 1) < lo) || decide ((((headQ b.q).2.length : Int) - 1) > hi) then 22 else 0 := by unfold takeE; rw [hq]; rfl
  refine Br.of (fun c1 => bad 21 _ (by rw [hE, c1]; rfl) (by decide) hpl _) fun c1 => ?_
  have hw : IntKind.i64.wrap (((headQ b.q).2.length : Int) - 1) = ((headQ b.q).2.length : Int) - 1 := by rw [wi64]; omega
  rw [c1] at hE
  show Br (decide (IntKind.i64.wrap (((headQ b.q).2.length : Int) - 1) < lo)) _ (Br (decide (IntKind.i64.wrap (((headQ b.q).2.length : Int) - 1) > hi)) _ _)
  rw [hw]
  refine Br.of (fun c2 => bad 22 _ (by rw [hE, c2]; rfl) (by decide) hpl _) fun c2 => Br.of (fun c3 => bad 22 _ (by rw [hE, c3, Bool.or_true]; rfl) (by decide) hpl _) fun c3 => ?_
  refine Br.of (fun _ => ?_) fun f => absurd f (by simp only [Bool.true_and, Bool.and_eq_false_iff, decide_eq_false_iff_not]; omega)
  show Br (true && (decide (1 ≤ (((headQ b.q).2.length : Nat) : Int)) && decide ((((headQ b.q).2.length : Nat) : Int) ≤ (((headQ b.q).2.length : Nat) : Int)))) _ _
  refine Br.of (fun _ => ?_) fun f => absurd f (by simp only [Bool.true_and, Bool.and_eq_false_iff, decide_eq_false_iff_not]; omega)
  obtain ⟨t1, t2⟩ := tk_ok (all := all) (lo := lo) (hi := hi) (w := w) he (by rw [hE, c2, c3]; rfl)
  have := h2 t1 [0] sub1
  rw [t2] at this
  refine ⟨(headQ b.q).2.tail, ⟨?_, by simp only [List.length_tail]; omega⟩, ?_⟩
  · show [SV.ro (((headQ b.q).2.length : Int).toNat - 1) 1 fun i => strsG (headQ b.q).2 (i + 1)] = _
    rw [Int.toNat_natCast, strsG_tail, List.length_tail]
  · rw [Int.toNat_natCast, qG_tail]
    unfold bkC at this
    simp only [List.length_tail] at this
    simp only [List.length_tail]
    unfold takeL at this
    simp only [List.length_tail] at this
    exact this
theorem next_law {b : Bk} {all : Int} {w : ByteArray} {K : KC} (hb : okBk b) (hK : K (.bool (nextV b w)) [some (.cells bkT (bkC all b))] []) :
    run y5 3 30 [.ptr 0 0, .str w] [some (.cells bkT (bkC all b))] K := by
  rw [next_nf]
  unfold nextV at hK
  refine Br.of (fun c => ?_) fun c => by rw [c] at hK; exact hK
  rw [c] at hK
  refine Br.of (fun hq => ?_) fun hq => ?_
  · have hql : 0 < b.q.length := by have := of_decide_eq_true hq; omega
    have hne : b.q ≠ [] := List.length_pos_iff.1 hql
    obtain ⟨l1, l2⟩ := hb.head hne
    rw [show b.q.isEmpty = false by cases hh : b.q with | nil => exact absurd hh hne | cons => rfl] at hK
    refine Br.of (fun _ => ?_) fun f => absurd f (by simp only [Bool.true_and, decide_eq_false_iff_not]; omega)
    show Br (true && decide (0 < (((headQ b.q).2.length : Nat) : Int))) _ _
    exact Br.of (fun _ => hK) fun f => absurd f (by simp only [Bool.true_and, decide_eq_false_iff_not]; omega)
  · have : b.q.isEmpty = true := by
      have := of_decide_eq_false hq
      rw [List.isEmpty_iff_length_eq_zero]; omega
    rw [this] at hK; exact hK
theorem int_law {b : Bk} {all lo hi : Int} {s : ByteArray} {K : KC} (hK : ∀ d', (∀ p, p ∈ d' → p ∈ [0]) → K (.int .i64 (intV b (listOf s) lo hi)) [some (.cells bkT (bkC all (intBk b (listOf s) lo hi)))] d') :
    run y5 3 73 [.ptr 0 0, .str s, .int .i64 lo, .int .i64 hi] [some (.cells bkT (bkC all b))] K := by
  rw [int_nf]
  unfold intV intBk at hK
  cases c : b.err == 0 with
  | false => rw [c, fail_no c] at hK; exact hK [] sub0
  | true =>
    rw [c] at hK
    have h24 : wholeE (listOf s) ≠ 0 → wholeE (listOf s) = 24 ∧ wholeV (listOf s) = 0 := fun h => by
      unfold wholeE wholeV at *
      cases hn : numB (minusL (listOf s)) 18 with
      | true => rw [hn] at h; exact absurd rfl h
      | false => exact ⟨rfl, rfl⟩
    refine Br.of (fun e => by cases e) fun _ => ?_
    cases w : wholeE (listOf s) == 0 with
    | true =>
      have hw0 : wholeE (listOf s) = 0 := by simpa using w
      refine Br.of (fun _ => Br.of (fun d => Br.of (fun _ => ?_) fun e => by cases e) fun d => Br.of (fun d2 => Br.of (fun _ => ?_) fun e => by cases e) fun d2 => Br.of (fun _ => Br.of (fun d3 => ?_) fun d3 => ?_) fun e => by cases e) fun e => by cases e
      · have hE : intE (listOf s) lo hi = 40 := by unfold intE; rw [w, d]; rfl
        rw [hE, fail_yes c (by decide)] at hK; exact hK [0] sub1
      · have hE : intE (listOf s) lo hi = 40 := by unfold intE; rw [w, d2, Bool.or_true]; rfl
        rw [hE, fail_yes c (by decide)] at hK; exact hK [0] sub1
      · rw [hw0] at d3; cases d3
      · have hE : intE (listOf s) lo hi = 0 := by unfold intE; rw [w, d, d2]; rfl
        rw [hE, fail_ok] at hK; exact hK [] sub0
    | false =>
      have hw0 := h24 (by simpa using w)
      have hE : intE (listOf s) lo hi = 24 := by unfold intE; rw [w]; rfl
      rw [hE, fail_yes c (by decide)] at hK
      refine Br.of (fun e => by cases e) fun _ => Br.of (fun _ => Br.of (fun _ => ?_) fun d => ?_) fun e => by cases e
      · rw [hw0.1, hw0.2]; exact hK [0] sub1
      · rw [hw0.1] at d; cases d
theorem shape_law {b : Bk} {all : Int} {K : KC} (hK : ∀ d', (∀ p, p ∈ d' → p ∈ [0]) → K (.tup []) [some (.cells bkT (bkC all (shapeBk b)))] d') :
    run y5 3 32 [.ptr 0 0] [some (.cells bkT (bkC all b))] K := by
  rw [shape_nf]
  unfold shapeBk at hK
  cases c : b.err == 0 with
  | false => rw [fail_no c] at hK; exact hK [] sub0
  | true => rw [fail_yes c (by decide)] at hK; exact hK [0] sub1
theorem end_law {b : Bk} {all : Int} {K : KC} (hK : ∀ d', (∀ p, p ∈ d' → p ∈ [0]) → K (.tup [.int .i64 (endE b), .int .i64 (endAt b)]) [some (.cells bkT (bkC all (endBk b)))] d') :
    run y5 3 35 [.ptr 0 0] [some (.cells bkT (bkC all b))] K := by
  rw [end_nf]
  unfold endE endAt endBk at hK
  refine Br.of (fun hq => ?_) fun hq => ?_
  · have hql : 0 < b.q.length := by have := of_decide_eq_true hq; omega
    have hne : b.q.isEmpty = false := by cases hh : b.q with | nil => rw [hh] at hql; simp at hql | cons => rfl
    rw [hne] at hK
    refine Br.of (fun _ => ?_) fun f => absurd f (by simp only [Bool.true_and, decide_eq_false_iff_not]; omega)
    cases c : b.err == 0 with
    | false =>
      simp only [cond_false] at hK
      rw [fail_no c, show (b.err != 0) = true by rw [bne, c]; rfl] at hK
      exact hK [] sub0
    | true =>
      simp only [cond_false] at hK
      rw [fail_yes c (by decide), show (b.err != 0) = false by rw [bne, c]; rfl] at hK
      exact hK [0] sub1
  · have hne : b.q.isEmpty = true := by
      have := of_decide_eq_false hq
      rw [List.isEmpty_iff_length_eq_zero]; omega
    rw [hne] at hK
    have h0 : (bif b.err != 0 then b.err else bif true then 0 else 23) = b.err := by
      cases c : b.err != 0
      · have : b.err = 0 := by simpa using c
        rw [this]; rfl
      · rfl
    have h1 : (bif b.err != 0 then b.place else bif true then b.place else (headQ b.q).1) = b.place := by cases b.err != 0 <;> rfl
    rw [h0, h1] at hK
    exact hK [] sub0
end Go.Proofs.YtjlmofhokbnloaaDoor

namespace Go.Proofs.YtjlmofhokbnloaaDoor
open Go.Se
set_option maxRecDepth 100000
def skR : List (Nat × Keep) := [(0, ⟨[0], [0], [0], 1, []⟩)]
def skS (L : List (List Int)) (pos : Nat) (b : Bk) : St := ⟨[(0, .ptr 0 0)], [(0, some (.cells rbT (rbC L pos b)))], 1, [0], 34⟩
noncomputable abbrev skE : Env := envL skR (fun _ => 0) y5 1
noncomputable abbrev skFn : Func := Tryd.f76
theorem sk_entry (L : List (List Int)) (pos : Nat) (b : Bk) (K : KC) : runL skR (fun _ => 0) y5 2 76 [.ptr 0 0] [some (.cells rbT (rbC L pos b))] K =
  (∃ q_, loopE skE (keepW skR 1) skFn [0] 0 1 K q_ { tmps := [(0, SV.ptr 0 0)], store := [(0, some (SB.cells 56 [SV.ro L.length 1 (strsG L), SV.int .i64 (↑pos : Int), SV.int .i64 b.last, SV.int .i64 b.err, SV.int .i64 b.place]))], nxt := 1, dirty := [0], nt := 34 }) := by kernel_rfl
theorem sk_round (L : List (List Int)) (pos : Nat) (b : Bk) (K : Ex → St → Prop) : roundE skE (keepW skR 1) skFn [0] 0 K (skS L pos b) =
  (Br (decide ((↑pos : Int) < (↑L.length : Int))) (Br (decide (0 ≤ (↑pos : Int)) && decide ((↑pos : Int) < (↑L.length : Int))) (Br (decide ((bytesOf (L.getD (↑pos : Int).toNat [])).size ≤ 1048576)) (Br ((↑(piecesL (listOf (bytesOf (L.getD (↑pos : Int).toNat [])))).length : Int) == 0) (K Ex.normal { tmps := [(0, SV.ptr 0 0)], store := [(0, some (SB.cells 56 [SV.ro L.length 1 (strsG L), SV.int .i64 (IntKind.i64.wrap ((↑pos : Int) + 1)), SV.int .i64 b.last, SV.int .i64 b.err, SV.int .i64 b.place]))], nxt := 1, dirty := [0], nt := 34 }) (K (Ex.exit 0) { tmps := [(0, SV.ptr 0 0)], store := [(0, some (SB.cells 56 [SV.ro L.length 1 (strsG L), SV.int .i64 (↑pos : Int), SV.int .i64 b.last, SV.int .i64 b.err, SV.int .i64 b.place]))], nxt := 1, dirty := [0], nt := 34 })) (False)) (False)) (K (Ex.exit 0) { tmps := [(0, SV.ptr 0 0)], store := [(0, some (SB.cells 56 [SV.ro L.length 1 (strsG L), SV.int .i64 (↑pos : Int), SV.int .i64 b.last, SV.int .i64 b.err, SV.int .i64 b.place]))], nxt := 1, dirty := [0], nt := 34 })) := by kernel_rfl
theorem sk_after (L : List (List Int)) (pos : Nat) (b : Bk) (K : KC) : afterE skE (keepW skR 1) skFn [0] 1 K (.exit 0) (skS L pos b) =
  (K (SV.tup []) [some (SB.cells 56 [SV.ro L.length 1 (strsG L), SV.int .i64 (↑pos : Int), SV.int .i64 b.last, SV.int .i64 b.err, SV.int .i64 b.place])] [0]) := by kernel_rfl
theorem skip_ok (L : List (List Int)) (pos : Nat) (b : Bk) (hL : okLn L) : CallOK Tryd.prog 76 [.ptr 0 0] [some (.cells rbT (rbC L pos b))] (.tup []) [some (.cells rbT (rbC L (skP L pos) b))] [0] :=
  runL_ok skR (fun _ => 0) y5 2 (fun p h => by rw [List.mem_singleton.1 h]; exact Nat.zero_lt_one) fun _ _ K hK => by
    have hK := hK [0] sub1
    rw [sk_entry]
    refine ⟨L.length + 2, loop_m (fun p : Nat => skS L p b) (fun p => L.length + 1 - p) (fun p => skP L p = skP L pos) ?_ (L.length + 2) pos rfl (by omega)⟩
    intro p hp X hX
    have hlen := hL.len
    obtain ⟨o1, o2⟩ := hL.at p
    have fin : blankB L p = false → afterE skE (keepW skR 1) skFn [0] 1 K (.exit 0) (skS L p b) := fun h => by
      rw [sk_after]
      rw [← hp, skP_id h] at hK
      exact hK
    rw [sk_round]
    simp only [Int.toNat_natCast, list_bytes o1, bytes_size, isEmpty_len]
    refine Br.of (fun c => ?_) fun c => fin (by unfold blankB; rw [decide_eq_false (by have := of_decide_eq_false c; omega)]; rfl)
    have c : p < L.length := by have := of_decide_eq_true c; omega
    refine Br.of (fun _ => Br.of (fun _ => Br.of (fun d => ?_) fun d => fin (by unfold blankB; rw [d, Bool.and_false])) fun f => absurd o2 (of_decide_eq_false f)) fun f => in_f c f
    have hb : blankB L p = true := by unfold blankB; rw [decide_eq_true c, d]; rfl
    rw [wi64_succ c (by omega)]
    exact hX (p + 1) (by rw [← skP_step hb]; exact hp) (by omega)
def cSkip : List SV → List (Option SB) → KC → Prop
  | [.ptr 0 0], [some (.cells 56 cs)], K => ∃ (L : List (List Int)) (pos : Nat) (b : Bk), (cs = rbC L pos b ∧ okLn L) ∧ K (.tup []) [some (.cells rbT (rbC L (skP L pos) b))] [0]
  | _, _, _ => False
theorem skip_sat (xs : List SV) (σ : List (Option SB)) : Sat Tryd.prog 76 xs σ (cSkip xs σ) := by
  intro K hK
  unfold cSkip at hK
  split at hK
  · obtain ⟨L, pos, b, ⟨rfl, hL⟩, hK⟩ := hK
    exact ⟨_, _, _, hK, skip_ok L pos b hL⟩
  · exact hK.elim
noncomputable def y6 : Know Tryd.prog := (y5).add 76 cSkip skip_sat
theorem rtake_nf (L : List (List Int)) (pos : Nat) (b : Bk) (lo hi : Int) (w : ByteArray) (K : KC) : run y6 3 37 [.ptr 0 0, .str w, .int .i64 lo, .int .i64 hi] [some (.cells rbT (rbC L pos b))] K =
  (Br (b.err != 0) (K SV.nils [some (SB.cells 56 [SV.ro L.length 1 (strsG L), SV.int .i64 (↑pos : Int), SV.int .i64 b.last, SV.int .i64 b.err, SV.int .i64 b.place])] []) (∃ (e399 : List (List Int)), ∃ (e398 : Nat), ∃ (e397 : Bk), ([SV.ro L.length 1 (strsG L), SV.int .i64 (↑pos : Int), SV.int .i64 b.last, SV.int .i64 b.err, SV.int .i64 b.place] = [SV.ro e399.length 1 (strsG e399), SV.int .i64 (↑e398 : Int), SV.int .i64 e397.last, SV.int .i64 e397.err, SV.int .i64 e397.place] ∧ okLn e399) ∧ (Br (decide ((↑(skP e399 e398) : Int) ≥ (↑e399.length : Int))) (Br (e397.err == 0) (K SV.nils [some (SB.cells 56 [SV.ro e399.length 1 (strsG e399), SV.int .i64 (↑(skP e399 e398) : Int), SV.int .i64 e397.last, SV.int .i64 20, SV.int .i64 (IntKind.i64.wrap ((↑e399.length : Int) + 1))])] [0]) (K SV.nils [some (SB.cells 56 [SV.ro e399.length 1 (strsG e399), SV.int .i64 (↑(skP e399 e398) : Int), SV.int .i64 e397.last, SV.int .i64 e397.err, SV.int .i64 e397.place])] [0])) (Br (decide (0 ≤ (↑(skP e399 e398) : Int)) && decide ((↑(skP e399 e398) : Int) < (↑e399.length : Int))) (Br (decide ((bytesOf (e399.getD (↑(skP e399 e398) : Int).toNat [])).size ≤ 1048576)) (Br (true && decide (0 < (↑(piecesL (listOf (bytesOf (e399.getD (↑(skP e399 e398) : Int).toNat [])))).length : Int))) (Br (!bytesOf ((piecesL (listOf (bytesOf (e399.getD (↑(skP e399 e398) : Int).toNat [])))).getD (Int.toNat 0) []) == w) (Br (e397.err == 0) (K SV.nils [some (SB.cells 56 [SV.ro e399.length 1 (strsG e399), SV.int .i64 (↑(skP e399 e398) : Int), SV.int .i64 e397.last, SV.int .i64 21, SV.int .i64 (IntKind.i64.wrap ((↑(skP e399 e398) : Int) + 1))])] [0]) (K SV.nils [some (SB.cells 56 [SV.ro e399.length 1 (strsG e399), SV.int .i64 (↑(skP e399 e398) : Int), SV.int .i64 e397.last, SV.int .i64 e397.err, SV.int .i64 e397.place])] [0])) (Br (decide (IntKind.i64.wrap ((↑(piecesL (listOf (bytesOf (e399.getD (↑(skP e399 e398) : Int).toNat [])))).length : Int) - 1) < lo)) (Br (e397.err == 0) (K SV.nils [some (SB.cells 56 [SV.ro e399.length 1 (strsG e399), SV.int .i64 (↑(skP e399 e398) : Int), SV.int .i64 e397.last, SV.int .i64 22, SV.int .i64 (IntKind.i64.wrap ((↑(skP e399 e398) : Int) + 1))])] [0]) (K SV.nils [some (SB.cells 56 [SV.ro e399.length 1 (strsG e399), SV.int .i64 (↑(skP e399 e398) : Int), SV.int .i64 e397.last, SV.int .i64 e397.err, SV.int .i64 e397.place])] [0])) (Br (decide (IntKind.i64.wrap ((↑(piecesL (listOf (bytesOf (e399.getD (↑(skP e399 e398) : Int).toNat [])))).length : Int) - 1) > hi)) (Br (e397.err == 0) (K SV.nils [some (SB.cells 56 [SV.ro e399.length 1 (strsG e399), SV.int .i64 (↑(skP e399 e398) : Int), SV.int .i64 e397.last, SV.int .i64 22, SV.int .i64 (IntKind.i64.wrap ((↑(skP e399 e398) : Int) + 1))])] [0]) (K SV.nils [some (SB.cells 56 [SV.ro e399.length 1 (strsG e399), SV.int .i64 (↑(skP e399 e398) : Int), SV.int .i64 e397.last, SV.int .i64 e397.err, SV.int .i64 e397.place])] [0])) (Br (true && (decide (1 ≤ (↑(piecesL (listOf (bytesOf (e399.getD (↑(skP e399 e398) : Int).toNat [])))).length : Int)) && decide ((↑(piecesL (listOf (bytesOf (e399.getD (↑(skP e399 e398) : Int).toNat [])))).length : Int) ≤ (↑(piecesL (listOf (bytesOf (e399.getD (↑(skP e399 e398) : Int).toNat [])))).length : Int)))) (K (SV.ro ((↑(piecesL (listOf (bytesOf (e399.getD (↑(skP e399 e398) : Int).toNat [])))).length : Int).toNat - 1) 1 fun (i : Nat) => strsG (piecesL (listOf (bytesOf (e399.getD (↑(skP e399 e398) : Int).toNat [])))) (i + 1)) [some (SB.cells 56 [SV.ro e399.length 1 (strsG e399), SV.int .i64 (IntKind.i64.wrap ((↑(skP e399 e398) : Int) + 1)), SV.int .i64 (IntKind.i64.wrap ((↑(skP e399 e398) : Int) + 1)), SV.int .i64 e397.err, SV.int .i64 e397.place])] [0]) (False))))) (False)) (False)) (False))))) := by kernel_rfl
theorem rnext_nf (L : List (List Int)) (pos : Nat) (b : Bk) (w : ByteArray) (K : KC) : run y6 3 38 [.ptr 0 0, .str w] [some (.cells rbT (rbC L pos b))] K =
  (Br (b.err != 0) (K (SV.bool false) [some (SB.cells 56 [SV.ro L.length 1 (strsG L), SV.int .i64 (↑pos : Int), SV.int .i64 b.last, SV.int .i64 b.err, SV.int .i64 b.place])] []) (∃ (e399 : List (List Int)), ∃ (e398 : Nat), ∃ (e397 : Bk), ([SV.ro L.length 1 (strsG L), SV.int .i64 (↑pos : Int), SV.int .i64 b.last, SV.int .i64 b.err, SV.int .i64 b.place] = [SV.ro e399.length 1 (strsG e399), SV.int .i64 (↑e398 : Int), SV.int .i64 e397.last, SV.int .i64 e397.err, SV.int .i64 e397.place] ∧ okLn e399) ∧ (Br (decide ((↑(skP e399 e398) : Int) < (↑e399.length : Int))) (Br (decide (0 ≤ (↑(skP e399 e398) : Int)) && decide ((↑(skP e399 e398) : Int) < (↑e399.length : Int))) (Br (decide ((bytesOf (e399.getD (↑(skP e399 e398) : Int).toNat [])).size ≤ 1048576)) (Br (true && decide (0 < (↑(piecesL (listOf (bytesOf (e399.getD (↑(skP e399 e398) : Int).toNat [])))).length : Int))) (K (SV.bool (bytesOf ((piecesL (listOf (bytesOf (e399.getD (↑(skP e399 e398) : Int).toNat [])))).getD (Int.toNat 0) []) == w)) [some (SB.cells 56 [SV.ro e399.length 1 (strsG e399), SV.int .i64 (↑(skP e399 e398) : Int), SV.int .i64 e397.last, SV.int .i64 e397.err, SV.int .i64 e397.place])] [0]) (False)) (False)) (False)) (K (SV.bool false) [some (SB.cells 56 [SV.ro e399.length 1 (strsG e399), SV.int .i64 (↑(skP e399 e398) : Int), SV.int .i64 e397.last, SV.int .i64 e397.err, SV.int .i64 e397.place])] [0])))) := by kernel_rfl
theorem rint_nf (L : List (List Int)) (pos : Nat) (b : Bk) (lo hi : Int) (s : ByteArray) (K : KC) : run y6 3 78 [.ptr 0 0, .str s, .int .i64 lo, .int .i64 hi] [some (.cells rbT (rbC L pos b))] K =
  (Br (b.err != 0) (K (SV.int .i64 0) [some (SB.cells 56 [SV.ro L.length 1 (strsG L), SV.int .i64 (↑pos : Int), SV.int .i64 b.last, SV.int .i64 b.err, SV.int .i64 b.place])] []) (Br (wholeE (listOf s) == 0) (Br (decide (wholeV (listOf s) < lo)) (Br (b.err == 0) (K (SV.int .i64 0) [some (SB.cells 56 [SV.ro L.length 1 (strsG L), SV.int .i64 (↑pos : Int), SV.int .i64 b.last, SV.int .i64 40, SV.int .i64 b.last])] [0]) (K (SV.int .i64 0) [some (SB.cells 56 [SV.ro L.length 1 (strsG L), SV.int .i64 (↑pos : Int), SV.int .i64 b.last, SV.int .i64 b.err, SV.int .i64 b.place])] [])) (Br (decide (wholeV (listOf s) > hi)) (Br (b.err == 0) (K (SV.int .i64 0) [some (SB.cells 56 [SV.ro L.length 1 (strsG L), SV.int .i64 (↑pos : Int), SV.int .i64 b.last, SV.int .i64 40, SV.int .i64 b.last])] [0]) (K (SV.int .i64 0) [some (SB.cells 56 [SV.ro L.length 1 (strsG L), SV.int .i64 (↑pos : Int), SV.int .i64 b.last, SV.int .i64 b.err, SV.int .i64 b.place])] [])) (Br (wholeE (listOf s) != 0) (Br (b.err == 0) (K (SV.int .i64 0) [some (SB.cells 56 [SV.ro L.length 1 (strsG L), SV.int .i64 (↑pos : Int), SV.int .i64 b.last, SV.int .i64 (wholeE (listOf s)), SV.int .i64 b.last])] [0]) (K (SV.int .i64 0) [some (SB.cells 56 [SV.ro L.length 1 (strsG L), SV.int .i64 (↑pos : Int), SV.int .i64 b.last, SV.int .i64 b.err, SV.int .i64 b.place])] [])) (K (SV.int .i64 (wholeV (listOf s))) [some (SB.cells 56 [SV.ro L.length 1 (strsG L), SV.int .i64 (↑pos : Int), SV.int .i64 b.last, SV.int .i64 b.err, SV.int .i64 b.place])] [])))) (Br (wholeE (listOf s) != 0) (Br (b.err == 0) (K (SV.int .i64 0) [some (SB.cells 56 [SV.ro L.length 1 (strsG L), SV.int .i64 (↑pos : Int), SV.int .i64 b.last, SV.int .i64 (wholeE (listOf s)), SV.int .i64 b.last])] [0]) (K (SV.int .i64 0) [some (SB.cells 56 [SV.ro L.length 1 (strsG L), SV.int .i64 (↑pos : Int), SV.int .i64 b.last, SV.int .i64 b.err, SV.int .i64 b.place])] [])) (K (SV.int .i64 (wholeV (listOf s))) [some (SB.cells 56 [SV.ro L.length 1 (strsG L), SV.int .i64 (↑pos : Int), SV.int .i64 b.last, SV.int .i64 b.err, SV.int .i64 b.place])] [])))) := by kernel_rfl
theorem rshape_nf (L : List (List Int)) (pos : Nat) (b : Bk) (K : KC) : run y6 3 40 [.ptr 0 0] [some (.cells rbT (rbC L pos b))] K =
  (Br (b.err == 0) (K (SV.tup []) [some (SB.cells 56 [SV.ro L.length 1 (strsG L), SV.int .i64 (↑pos : Int), SV.int .i64 b.last, SV.int .i64 42, SV.int .i64 b.last])] [0]) (K (SV.tup []) [some (SB.cells 56 [SV.ro L.length 1 (strsG L), SV.int .i64 (↑pos : Int), SV.int .i64 b.last, SV.int .i64 b.err, SV.int .i64 b.place])] [])) := by kernel_rfl
theorem rend_nf (L : List (List Int)) (pos : Nat) (b : Bk) (K : KC) : run y6 3 41 [.ptr 0 0] [some (.cells rbT (rbC L pos b))] K =
  (∃ (e400 : List (List Int)), ∃ (e399 : Nat), ∃ (e398 : Bk), ([SV.ro L.length 1 (strsG L), SV.int .i64 (↑pos : Int), SV.int .i64 b.last, SV.int .i64 b.err, SV.int .i64 b.place] = [SV.ro e400.length 1 (strsG e400), SV.int .i64 (↑e399 : Int), SV.int .i64 e398.last, SV.int .i64 e398.err, SV.int .i64 e398.place] ∧ okLn e400) ∧ (Br (e398.err == 0) (Br (decide ((↑(skP e400 e399) : Int) < (↑e400.length : Int))) (Br (e398.err == 0) (K (SV.tup [SV.int .i64 23, SV.int .i64 (IntKind.i64.wrap ((↑(skP e400 e399) : Int) + 1))]) [some (SB.cells 56 [SV.ro e400.length 1 (strsG e400), SV.int .i64 (↑(skP e400 e399) : Int), SV.int .i64 e398.last, SV.int .i64 23, SV.int .i64 (IntKind.i64.wrap ((↑(skP e400 e399) : Int) + 1))])] [0]) (K (SV.tup [SV.int .i64 e398.err, SV.int .i64 e398.place]) [some (SB.cells 56 [SV.ro e400.length 1 (strsG e400), SV.int .i64 (↑(skP e400 e399) : Int), SV.int .i64 e398.last, SV.int .i64 e398.err, SV.int .i64 e398.place])] [0])) (K (SV.tup [SV.int .i64 e398.err, SV.int .i64 e398.place]) [some (SB.cells 56 [SV.ro e400.length 1 (strsG e400), SV.int .i64 (↑(skP e400 e399) : Int), SV.int .i64 e398.last, SV.int .i64 e398.err, SV.int .i64 e398.place])] [0])) (K (SV.tup [SV.int .i64 e398.err, SV.int .i64 e398.place]) [some (SB.cells 56 [SV.ro e400.length 1 (strsG e400), SV.int .i64 (↑(skP e400 e399) : Int), SV.int .i64 e398.last, SV.int .i64 e398.err, SV.int .i64 e398.place])] [0]))) := by kernel_rfl
theorem ropen_nf (s : ByteArray) (K : KC) : run y6 3 36 [.str s] [] K =
  (Br (decide (s.size ≤ 1048576)) (K (SV.ptr 0 0) [some (SB.cells 56 [SV.ro (linesL (listOf s)).length 1 (strsG (linesL (listOf s))), SV.int .i64 0, SV.int .i64 0, SV.int .i64 0, SV.int .i64 0])] []) (False)) := by kernel_rfl
theorem rtake_law {L : List (List Int)} {pos : Nat} {b : Bk} {lo hi : Int} {w : ByteArray} {K : KC} (hL : okLn L) (hR : RB L pos b)
    (h1 : takeN b w lo hi = true → ∀ pos', RB L pos' (takeB L.length b w lo hi) → ∀ d', (∀ p, p ∈ d' → p ∈ [0]) → K .nils [some (.cells rbT (rbC L pos' (takeB L.length b w lo hi)))] d')
    (h2 : takeN b w lo hi = false → ∀ pos', RB L pos' (takeB L.length b w lo hi) → ∀ d', (∀ p, p ∈ d' → p ∈ [0]) → K (.ro (takeL b).length 1 (strsG (takeL b))) [some (.cells rbT (rbC L pos' (takeB L.length b w lo hi)))] d') :
    run y6 3 37 [.ptr 0 0, .str w, .int .i64 lo, .int .i64 hi] [some (.cells rbT (rbC L pos b))] K := by
  rw [rtake_nf]
  refine Br.of (fun c => ?_) fun c => ?_
  · obtain ⟨t1, t2⟩ := tk_err (w := w) (lo := lo) (hi := hi) (all := (L.length : Int)) (b := b) (by rw [bne, Bool.not_eq_true'] at c; exact c)
    have := h1 t1 pos (by rw [t2]; exact hR) [] sub0
    rw [t2] at this; exact this
  have he : (b.err == 0) = true := by simpa using c
  refine ⟨L, pos, b, ⟨rfl, hL⟩, ?_⟩
  have hS := hR.skip
  have hstop := skP_stop L pos
  generalize skP L pos = p at hS hstop
  have hlen := hL.len
  obtain ⟨o1, o2⟩ := hL.at p
  simp only [Int.toNat_natCast, list_bytes o1, bytes_size, he]
  have bad : ∀ e a : Int, takeE b w lo hi = e → e ≠ 0 → (bif b.q.isEmpty then (L.length : Int) + 1 else (headQ b.q).1) = a → ∀ X : Prop, Br true (K SV.nils [some (SB.cells rbT [SV.ro L.length 1 (strsG L), SV.int .i64 p, SV.int .i64 b.last, SV.int .i64 e, SV.int .i64 a])] [0]) X := by
    intro e a hT h0 hpl X
    obtain ⟨t1, t2⟩ := tk_bad (all := (L.length : Int)) he hT h0
    have := h1 t1 p (by rw [t2]; exact hS.same) [0] sub1
    rw [t2, hpl] at this
    exact this
  rcases hS.at hstop with ⟨hp, hq⟩ | ⟨hp, hq, hne⟩
  · refine Br.of (fun _ => ?_) fun c => absurd c (by simp only [decide_eq_false_iff_not]; omega)
    rw [show IntKind.i64.wrap ((L.length : Int) + 1) = (L.length : Int) + 1 by rw [wi64]; omega]
    exact bad 20 _ (by unfold takeE; rw [hq]; rfl) (by decide) (by rw [hq]; rfl) _
  · have hhead : headQ b.q = ((p : Int) + 1, piecesL (L.getD p [])) := by rw [hq]; rfl
    have hemp : b.q.isEmpty = false := by rw [hq]; rfl
    have hpl : (bif b.q.isEmpty then (L.length : Int) + 1 else (headQ b.q).1) = (p : Int) + 1 := by rw [hemp, hhead]; rfl
    have hw1 : IntKind.i64.wrap ((p : Int) + 1) = (p : Int) + 1 := by rw [wi64]; omega
    rw [hw1]
    refine Br.of (fun c => absurd (of_decide_eq_true c) (by omega)) fun _ => Br.of (fun _ => Br.of (fun _ => ?_) fun f => absurd o2 (of_decide_eq_false f)) fun f => in_f hp f
    have hE : takeE b w lo hi = bif !(bytesOf ((piecesL (L.getD p [])).getD 0 []) == w) then 21 else bif decide ((((piecesL (L.getD p [])).length : Int) - 1) < lo) || decide ((((piecesL (L.getD p [])).length : Int) - 1) > hi) then 22 else 0 := by unfold takeE; rw [hemp, hhead]; rfl
    have hsmall : (piecesL (L.getD p [])).length ≤ 1048577 := by
      have := pieces_len (L.getD p [])
      omega
    generalize hP : piecesL (L.getD p []) = P at hne hE hhead hsmall
    have hpos : 0 < P.length := List.length_pos_iff.2 hne
    refine Br.of (fun _ => ?_) fun f => absurd f (by simp only [Bool.true_and, decide_eq_false_iff_not]; omega)
    show Br (!bytesOf (P.getD 0 []) == w) _ _
    have hw2 : IntKind.i64.wrap ((P.length : Int) - 1) = (P.length : Int) - 1 := by rw [wi64]; omega
    rw [hw2]
    refine Br.of (fun c1 => bad 21 _ (by rw [hE, c1]; rfl) (by decide) hpl _) fun c1 => ?_
    rw [c1] at hE
    refine Br.of (fun c2 => bad 22 _ (by rw [hE, c2]; rfl) (by decide) hpl _) fun c2 => Br.of (fun c3 => bad 22 _ (by rw [hE, c3, Bool.or_true]; rfl) (by decide) hpl _) fun c3 => ?_
    refine Br.of (fun _ => ?_) fun f => absurd f (by simp only [Bool.true_and, Bool.and_eq_false_iff, decide_eq_false_iff_not]; omega)
    obtain ⟨t1, t2⟩ := tk_ok (all := (L.length : Int)) (lo := lo) (hi := hi) (w := w) he (by rw [hE, c2, c3]; rfl)
    have hR' : RB L (p + 1) (takeB L.length b w lo hi) := by rw [t2]; exact ⟨hp, by rw [hq]; rfl⟩
    have := h2 t1 (p + 1) hR' [0] sub1
    rw [t2] at this
    unfold takeL at this
    rw [hhead] at this
    rw [strsG_tail]
    unfold rbC at this
    simp only [List.length_tail] at this
    exact this
theorem rnext_law {L : List (List Int)} {pos : Nat} {b : Bk} {w : ByteArray} {K : KC} (hL : okLn L) (hR : RB L pos b)
    (hK : ∀ pos', RB L pos' b → ∀ d', (∀ p, p ∈ d' → p ∈ [0]) → K (.bool (nextV b w)) [some (.cells rbT (rbC L pos' b))] d') :
    run y6 3 38 [.ptr 0 0, .str w] [some (.cells rbT (rbC L pos b))] K := by
  rw [rnext_nf]
  unfold nextV at hK
  refine Br.of (fun c => ?_) fun c => ?_
  · rw [show (b.err == 0) = false by rw [bne, Bool.not_eq_true'] at c; exact c] at hK
    exact hK pos hR [] sub0
  rw [show (b.err == 0) = true by simpa using c] at hK
  refine ⟨L, pos, b, ⟨rfl, hL⟩, ?_⟩
  have hS := hR.skip
  have hstop := skP_stop L pos
  generalize skP L pos = p at hS hstop
  obtain ⟨o1, o2⟩ := hL.at p
  have hK := hK p hS [0] sub1
  simp only [Int.toNat_natCast, list_bytes o1, bytes_size]
  rcases hS.at hstop with ⟨hp, hq⟩ | ⟨hp, hq, hne⟩
  · rw [hq] at hK
    exact Br.of (fun c => absurd (of_decide_eq_true c) (by omega)) fun _ => hK
  · have hhead : headQ b.q = ((p : Int) + 1, piecesL (L.getD p [])) := by rw [hq]; rfl
    have hemp : b.q.isEmpty = false := by rw [hq]; rfl
    rw [hhead, hemp] at hK
    have hpos : 0 < (piecesL (L.getD p [])).length := List.length_pos_iff.2 hne
    exact Br.of (fun _ => Br.of (fun _ => Br.of (fun _ => Br.of (fun _ => hK) fun f => absurd f (by simp only [Bool.true_and, decide_eq_false_iff_not]; omega)) fun f => absurd o2 (of_decide_eq_false f)) fun f => in_f hp f) fun c => absurd (of_decide_eq_false c) (by omega)
theorem rint_law {L : List (List Int)} {pos : Nat} {b : Bk} {lo hi : Int} {s : ByteArray} {K : KC} (hK : ∀ d', (∀ p, p ∈ d' → p ∈ [0]) → K (.int .i64 (intV b (listOf s) lo hi)) [some (.cells rbT (rbC L pos (intBk b (listOf s) lo hi)))] d') :
    run y6 3 78 [.ptr 0 0, .str s, .int .i64 lo, .int .i64 hi] [some (.cells rbT (rbC L pos b))] K := by
  rw [rint_nf]
  unfold intV intBk at hK
  cases c : b.err == 0 with
  | false =>
    rw [c, fail_no c] at hK
    rw [show (b.err != 0) = true by rw [bne, c]; rfl]
    exact hK [] sub0
  | true =>
    rw [c] at hK
    rw [show (b.err != 0) = false by rw [bne, c]; rfl]
    refine Br.of (fun e => by cases e) fun _ => ?_
    cases w : wholeE (listOf s) == 0 with
    | true =>
      have hw0 : wholeE (listOf s) = 0 := by simpa using w
      refine Br.of (fun _ => Br.of (fun d => Br.of (fun _ => ?_) fun e => by cases e) fun d => Br.of (fun d2 => Br.of (fun _ => ?_) fun e => by cases e) fun d2 => Br.of (fun d3 => ?_) fun d3 => ?_) fun e => by cases e
      · have hE : intE (listOf s) lo hi = 40 := by unfold intE; rw [w, d]; rfl
        rw [hE, fail_yes c (by decide)] at hK; exact hK [0] sub1
      · have hE : intE (listOf s) lo hi = 40 := by unfold intE; rw [w, d2, Bool.or_true]; rfl
        rw [hE, fail_yes c (by decide)] at hK; exact hK [0] sub1
      · rw [hw0] at d3; cases d3
      · have hE : intE (listOf s) lo hi = 0 := by unfold intE; rw [w, d, d2]; rfl
        rw [hE, fail_ok] at hK; exact hK [] sub0
    | false =>
      have hw0 : wholeE (listOf s) = 24 := by
        have h : wholeE (listOf s) ≠ 0 := by simpa using w
        unfold wholeE at *
        cases hn : numB (minusL (listOf s)) 18 with
        | true => rw [hn] at h; exact absurd rfl h
        | false => rfl
      have hE : intE (listOf s) lo hi = 24 := by unfold intE; rw [w]; rfl
      rw [hE, fail_yes c (by decide)] at hK
      refine Br.of (fun e => by cases e) fun _ => Br.of (fun _ => Br.of (fun _ => ?_) fun e => by cases e) fun d => ?_
      · rw [hw0]; exact hK [0] sub1
      · rw [hw0] at d; cases d
theorem rshape_law {L : List (List Int)} {pos : Nat} {b : Bk} {K : KC} (hK : ∀ d', (∀ p, p ∈ d' → p ∈ [0]) → K (.tup []) [some (.cells rbT (rbC L pos (shapeBk b)))] d') :
    run y6 3 40 [.ptr 0 0] [some (.cells rbT (rbC L pos b))] K := by
  rw [rshape_nf]
  unfold shapeBk at hK
  cases c : b.err == 0 with
  | false => rw [fail_no c] at hK; exact hK [] sub0
  | true => rw [fail_yes c (by decide)] at hK; exact hK [0] sub1
theorem rend_law {L : List (List Int)} {pos : Nat} {b : Bk} {K : KC} (hL : okLn L) (hR : RB L pos b)
    (hK : ∀ pos', RB L pos' (endBk b) → ∀ d', (∀ p, p ∈ d' → p ∈ [0]) → K (.tup [.int .i64 (endE b), .int .i64 (endAt b)]) [some (.cells rbT (rbC L pos' (endBk b)))] d') :
    run y6 3 41 [.ptr 0 0] [some (.cells rbT (rbC L pos b))] K := by
  rw [rend_nf]
  refine ⟨L, pos, b, ⟨rfl, hL⟩, ?_⟩
  have hS := hR.skip
  have hstop := skP_stop L pos
  generalize skP L pos = p at hS hstop
  have hlen := hL.len
  unfold endE endAt endBk at hK
  rcases hS.at hstop with ⟨hp, hq⟩ | ⟨hp, hq, hne⟩
  · have hemp : b.q.isEmpty = true := by rw [hq]; rfl
    rw [hemp] at hK
    have h0 : (bif b.err != 0 then b.err else bif true then 0 else 23) = b.err := by
      cases c : b.err != 0
      · have : b.err = 0 := by simpa using c
        rw [this]; rfl
      · rfl
    have h1 : (bif b.err != 0 then b.place else bif true then b.place else (headQ b.q).1) = b.place := by cases b.err != 0 <;> rfl
    rw [h0, h1] at hK
    have hK := hK p hS [0] sub1
    exact Br.of (fun _ => Br.of (fun c => absurd (of_decide_eq_true c) (by omega)) fun _ => hK) fun _ => hK
  · have hhead : headQ b.q = ((p : Int) + 1, piecesL (L.getD p [])) := by rw [hq]; rfl
    have hemp : b.q.isEmpty = false := by rw [hq]; rfl
    rw [hemp, hhead] at hK
    have hK := hK p (hS.fail) [0] sub1
    rw [show IntKind.i64.wrap ((p : Int) + 1) = (p : Int) + 1 by rw [wi64]; omega]
    cases c : b.err == 0 with
    | false =>
      simp only [cond_false] at hK
      rw [fail_no c, show (b.err != 0) = true by rw [bne, c]; rfl] at hK
      exact hK
    | true =>
      simp only [cond_false] at hK
      rw [fail_yes c (by decide), show (b.err != 0) = false by rw [bne, c]; rfl] at hK
      exact Br.of (fun _ => Br.of (fun _ => hK) fun c => absurd (of_decide_eq_false c) (by omega)) fun e => by cases e
end Go.Proofs.YtjlmofhokbnloaaDoor

