import Derived.Test.YtjlmofhokbnloaaDoorKf
namespace Go.Proofs.YtjlmofhokbnloaaDoor
open Go.Se
set_option maxRecDepth 100000
noncomputable abbrev runP (R : List (Nat × Keep × List ((Nat × List Nat) × Nat))) (u : Nat → Nat) (B : Know Tryd.prog) (n : Nat) (k : FuncId) (xs : List SV) (σ : List (Option SB)) (K : KC) : Prop :=
  calls (tab.env B u (fun _ => false)) (keepP R) B.dom n k xs σ K
theorem runP_ok (R : List (Nat × Keep × List ((Nat × List Nat) × Nat))) (u : Nat → Nat) (B : Know Tryd.prog) (n : Nat) {k : FuncId} {xs : List SV} {σ : List (Option SB)} {v : SV} {σ' : List (Option SB)} {d : List Nat}
    (hl : ∀ p, p ∈ d → p < σ.length)
    (h : okL xs → okS σ → ∀ K : KC, (∀ d', (∀ p, p ∈ d' → p ∈ d) → K v σ' d') → runP R u B n k xs σ K) : CallOK Tryd.prog k xs σ v σ' d :=
  callOK_of_callsP (R := R) tab B hl fun h1 h2 => h h1 h2 _ fun _ hd => ⟨rfl, rfl, hd⟩
noncomputable abbrev envP (R : List (Nat × Keep × List ((Nat × List Nat) × Nat))) (u : Nat → Nat) (B : Know Tryd.prog) (n : Nat) : Env :=
  { tab.env B u (fun _ => false) with callee := calls (tab.env B u (fun _ => false)) (keepP R) B.dom n, round := fun xs σ K => calls.roundsN (tab.env B u (fun _ => false)) (keepP R) B.dom n xs σ K }
def opR : List (Nat × Keep × List ((Nat × List Nat) × Nat)) := [(0, ⟨[3, 10, 11, 12], [0, 1], [0, 1, 2, 3, 4, 5, 6, 7, 8], 2, []⟩, [((3, [0]), 1)])]
def opS (L : List (List Int)) (o : SV) (b : Option SB) (all i : Int) : St := ⟨[(3, .ptr 0 0), (10, .ro L.length 1 (strsG L)), (11, .int .i64 L.length), (12, .int .i64 i)], [(0, some (.cells bkT [o, .int .i64 all, .int .i64 0, .int .i64 0, .int .i64 0])), (1, b)], 2, [0, 1, 2, 3, 4, 5, 6, 7, 8], 44⟩
noncomputable abbrev opE : Env := envP opR (fun _ => 0) y5 2
noncomputable abbrev opF : Func := Tryd.f28
abbrev opP : List Nat := [1, 1, 0, 1, 0]
theorem op_entry (s : ByteArray) (K : KC) : runP opR (fun _ => 0) y5 3 28 [.str s] [] K =
  (Br (decide (s.size ≤ 1048576)) (∃ q_, loopE opE (keepP opR 0) opF opP 0 0 K q_ { tmps := [(3, SV.ptr 0 0), (10, SV.ro (linesL (listOf s)).length 1 (strsG (linesL (listOf s)))), (11, SV.int .i64 (↑(linesL (listOf s)).length : Int)), (12, SV.int .i64 0)], store := [(0, some (SB.cells 105 [SV.nils, SV.int .i64 0, SV.int .i64 0, SV.int .i64 0, SV.int .i64 0])), (1, none)], nxt := 2, dirty := [0, 1, 2, 3, 4, 5, 6, 7, 8], nt := 44 }) (False)) := by kernel_rfl
theorem op_round0 (L : List (List Int)) (all : Int) (i : Nat) (K : Ex → St → Prop) : roundE opE (keepP opR 0) opF opP 0 K (opS L .nils none all i) =
  (Br (decide ((↑i : Int) < (↑L.length : Int))) (Br (decide (0 ≤ (↑i : Int)) && decide ((↑i : Int) < (↑L.length : Int))) (Br (decide ((bytesOf (L.getD (↑i : Int).toNat [])).size ≤ 1048576)) (Br (decide ((↑(piecesL (listOf (bytesOf (L.getD (↑i : Int).toNat [])))).length : Int) > 0)) (K Ex.normal { tmps := [(3, SV.ptr 0 0), (10, SV.ro L.length 1 (strsG L)), (11, SV.int .i64 (↑L.length : Int)), (12, SV.int .i64 (IntKind.i64.wrap ((↑i : Int) + 1)))], store := [(0, some (SB.cells 105 [SV.own 1 0 2 1, SV.int .i64 (IntKind.i64.wrap (all + 1)), SV.int .i64 0, SV.int .i64 0, SV.int .i64 0])), (1, some (SB.row 107 2 1 fun (i_1 : Nat) => cut [SV.int .i64 (IntKind.i64.wrap ((↑i : Int) + 1)), SV.ro (piecesL (listOf (bytesOf (L.getD (↑i : Int).toNat [])))).length 1 (strsG (piecesL (listOf (bytesOf (L.getD (↑i : Int).toNat [])))))] (i_1 * 2) 2))], nxt := 2, dirty := [0, 1, 2, 3, 4, 5, 6, 7, 8], nt := 44 }) (K Ex.normal { tmps := [(3, SV.ptr 0 0), (10, SV.ro L.length 1 (strsG L)), (11, SV.int .i64 (↑L.length : Int)), (12, SV.int .i64 (IntKind.i64.wrap ((↑i : Int) + 1)))], store := [(0, some (SB.cells 105 [SV.nils, SV.int .i64 (IntKind.i64.wrap (all + 1)), SV.int .i64 0, SV.int .i64 0, SV.int .i64 0])), (1, none)], nxt := 2, dirty := [0, 1, 2, 3, 4, 5, 6, 7, 8], nt := 44 })) (False)) (False)) (K (Ex.exit 0) { tmps := [(3, SV.ptr 0 0), (10, SV.ro L.length 1 (strsG L)), (11, SV.int .i64 (↑L.length : Int)), (12, SV.int .i64 (↑i : Int))], store := [(0, some (SB.cells 105 [SV.nils, SV.int .i64 all, SV.int .i64 0, SV.int .i64 0, SV.int .i64 0])), (1, none)], nxt := 2, dirty := [0, 1, 2, 3, 4, 5, 6, 7, 8], nt := 44 })) := by kernel_rfl
theorem op_round1 (L : List (List Int)) (m : Nat) (g : Nat → List SV) (all : Int) (i : Nat) (K : Ex → St → Prop) : roundE opE (keepP opR 0) opF opP 0 K (opS L (.own 1 0 2 m) (some (.row 107 2 m g)) all i) =
  (Br (decide ((↑i : Int) < (↑L.length : Int))) (Br (decide (0 ≤ (↑i : Int)) && decide ((↑i : Int) < (↑L.length : Int))) (Br (decide ((bytesOf (L.getD (↑i : Int).toNat [])).size ≤ 1048576)) (Br (decide ((↑(piecesL (listOf (bytesOf (L.getD (↑i : Int).toNat [])))).length : Int) > 0)) (Br (decide ((m + 1) * 32 ≤ 1099511627776) && decide (m + 1 < 9223372036854775808) && decide (m = m)) (K Ex.normal { tmps := [(3, SV.ptr 0 0), (10, SV.ro L.length 1 (strsG L)), (11, SV.int .i64 (↑L.length : Int)), (12, SV.int .i64 (IntKind.i64.wrap ((↑i : Int) + 1)))], store := [(0, some (SB.cells 105 [SV.own 1 0 2 (m + 1), SV.int .i64 (IntKind.i64.wrap (all + 1)), SV.int .i64 0, SV.int .i64 0, SV.int .i64 0])), (1, some (SB.row 107 2 (m + 1) (rowPut m [SV.int .i64 (IntKind.i64.wrap ((↑i : Int) + 1)), SV.ro (piecesL (listOf (bytesOf (L.getD (↑i : Int).toNat [])))).length 1 (strsG (piecesL (listOf (bytesOf (L.getD (↑i : Int).toNat [])))))] g)))], nxt := 2, dirty := [0, 1, 2, 3, 4, 5, 6, 7, 8], nt := 44 }) (False)) (K Ex.normal { tmps := [(3, SV.ptr 0 0), (10, SV.ro L.length 1 (strsG L)), (11, SV.int .i64 (↑L.length : Int)), (12, SV.int .i64 (IntKind.i64.wrap ((↑i : Int) + 1)))], store := [(0, some (SB.cells 105 [SV.own 1 0 2 m, SV.int .i64 (IntKind.i64.wrap (all + 1)), SV.int .i64 0, SV.int .i64 0, SV.int .i64 0])), (1, some (SB.row 107 2 m g))], nxt := 2, dirty := [0, 1, 2, 3, 4, 5, 6, 7, 8], nt := 44 })) (False)) (False)) (K (Ex.exit 0) { tmps := [(3, SV.ptr 0 0), (10, SV.ro L.length 1 (strsG L)), (11, SV.int .i64 (↑L.length : Int)), (12, SV.int .i64 (↑i : Int))], store := [(0, some (SB.cells 105 [SV.own 1 0 2 m, SV.int .i64 all, SV.int .i64 0, SV.int .i64 0, SV.int .i64 0])), (1, some (SB.row 107 2 m g))], nxt := 2, dirty := [0, 1, 2, 3, 4, 5, 6, 7, 8], nt := 44 })) := by kernel_rfl
theorem op_after0 (L : List (List Int)) (all : Int) (i : Nat) (K : KC) : afterE opE (keepP opR 0) opF opP 0 K (.exit 0) (opS L .nils none all i) =
  (K (SV.ptr 0 0) [some (SB.cells 105 [SV.nils, SV.int .i64 all, SV.int .i64 0, SV.int .i64 0, SV.int .i64 0])] []) := by kernel_rfl
theorem op_after1 (L : List (List Int)) (m : Nat) (g : Nat → List SV) (all : Int) (i : Nat) (K : KC) : afterE opE (keepP opR 0) opF opP 0 K (.exit 0) (opS L (.own 1 0 2 m) (some (.row 107 2 m g)) all i) =
  (K (SV.ptr 0 0) [some (SB.cells 105 [SV.own 1 0 2 m, SV.int .i64 all, SV.int .i64 0, SV.int .i64 0, SV.int .i64 0]), some (SB.row 107 2 m g)] []) := by kernel_rfl
abbrev lineT : TypeId := 107
def opK (q : List (Int × List (List Int))) (all : Int) (K : KC) : Prop :=
  (q = [] → K (.ptr 0 0) [some (.cells bkT [.nils, .int .i64 all, .int .i64 0, .int .i64 0, .int .i64 0])] []) ∧
  ∀ g, (∀ j (h : j < q.length), g j = lineC q[j]) → K (.ptr 0 0) [some (.cells bkT [.own 1 0 2 q.length, .int .i64 all, .int .i64 0, .int .i64 0, .int .i64 0]), some (.row lineT 2 q.length g)] []
theorem op_law (L : List (List Int)) (hL : okLn L) (K : KC) (hK : opK (nbF 0 L) L.length K) : ∃ q, loopE opE (keepP opR 0) opF opP 0 0 K q (opS L .nils none 0 0) := by
  have hlen := hL.len
  refine ⟨L.length + 1, loop_m (fun a : List (Int × List (List Int)) × SV × Option SB × Nat => opS L a.2.1 a.2.2.1 (a.2.2.2 : Nat) a.2.2.2) (fun a => L.length - a.2.2.2)
    (fun a => tellsL lineT 2 1 lineC a.1 a.2.1 a.2.2.1 ∧ a.2.2.2 ≤ L.length ∧ a.1.length ≤ a.2.2.2 ∧ a.1 ++ nbF a.2.2.2 (L.drop a.2.2.2) = nbF 0 L) ?_ (L.length + 1) ([], .nils, none, 0) ⟨tells_nil, Nat.zero_le _, Nat.le_refl _, rfl⟩ (by show L.length - 0 < _; omega)⟩
  rintro ⟨Q, o, b, i⟩ ⟨ht, h1, h2, h3⟩ X hX
  simp only at ht h1 h2 h3 hX ⊢
  obtain ⟨o1, o2⟩ := hL.at i
  have stop : ¬ i < L.length → afterE opE (keepP opR 0) opF opP 0 K (.exit 0) (opS L o b i i) := by
    intro hi
    have hi : i = L.length := by omega
    subst hi
    rw [nbF_end, List.append_nil] at h3
    rcases ht with ⟨h0, rfl, rfl⟩ | ⟨g, hne, rfl, rfl, hg⟩
    · rw [op_after0]; exact hK.1 (by rw [← h3]; exact h0)
    · rw [op_after1]
      subst h3
      exact hK.2 g hg
  have skip : i < L.length → piecesL (L.getD i []) = [] → X (opS L o b (i + 1 : Nat) (i + 1 : Nat)) := fun hi hp =>
    hX (Q, o, b, i + 1) ⟨ht, hi, by show Q.length ≤ i + 1; omega, by show Q ++ nbF (i + 1 : Nat) (L.drop (i + 1)) = _; rw [← nbF_blank hi hp]; exact h3⟩ (by show L.length - (i + 1) < L.length - i; omega)
  have push : i < L.length → piecesL (L.getD i []) ≠ [] → ∀ o' b', tellsL lineT 2 1 lineC (Q ++ [((i : Int) + 1, piecesL (L.getD i []))]) o' b' → X (opS L o' b' (i + 1 : Nat) (i + 1 : Nat)) := fun hi hp o' b' ht' =>
    hX (Q ++ [((i : Int) + 1, piecesL (L.getD i []))], o', b', i + 1) ⟨ht', hi, by show (Q ++ [_]).length ≤ i + 1; simp; omega, by show (Q ++ [_]) ++ nbF (i + 1 : Nat) (L.drop (i + 1)) = _; rw [List.append_assoc, ← h3, nbF_line hi hp]; rfl⟩ (by show L.length - (i + 1) < L.length - i; omega)
  have hwi : i < L.length → IntKind.i64.wrap ((i : Int) + 1) = ((i + 1 : Nat) : Int) := fun h => wi64_succ h (by omega)
  have hpe : ∀ P : List (List Int), decide (((P.length : Nat) : Int) > 0) = !P.isEmpty := fun P => by cases P <;> simp <;> omega
  rcases ht with ⟨rfl, rfl, rfl⟩ | ⟨g, hne, rfl, rfl, hg⟩
  · rw [op_round0]
    simp only [Int.toNat_natCast, list_bytes o1, bytes_size, hpe]
    refine Br.of (fun c => ?_) fun c => stop fun h => of_decide_eq_false c (by omega)
    have c : i < L.length := by have := of_decide_eq_true c; omega
    rw [hwi c]
    refine Br.of (fun _ => Br.of (fun _ => Br.of (fun d => ?_) fun d => ?_) fun f => absurd o2 (of_decide_eq_false f)) fun f => in_f c f
    · exact push c (fun e => by rw [e] at d; cases d) _ _ (by rw [List.nil_append]; exact tells_first (by push_cast; rfl) rfl)
    · exact skip c (by simpa using d)
  · rw [op_round1]
    simp only [Int.toNat_natCast, list_bytes o1, bytes_size, hpe]
    refine Br.of (fun c => ?_) fun c => stop fun h => of_decide_eq_false c (by omega)
    have c : i < L.length := by have := of_decide_eq_true c; omega
    rw [hwi c]
    refine Br.of (fun _ => Br.of (fun _ => Br.of (fun d => Br.of (fun _ => ?_) fun f => ?_) fun d => ?_) fun f => absurd o2 (of_decide_eq_false f)) fun f => in_f c f
    · exact push c (fun e => by rw [e] at d; cases d) _ _ (tells_push (by push_cast; rfl) rfl hg)
    · rw [Bool.and_eq_false_iff, Bool.and_eq_false_iff] at f
      rcases f with (f | f) | f
      · have := of_decide_eq_false f; omega
      · have := of_decide_eq_false f; omega
      · simp at f
    · exact skip c (by simpa using d)
theorem okLn_lines {s : ByteArray} (h : s.size ≤ 1048576) : okLn (linesL (listOf s)) := by
  have hl := list_length s
  exact ⟨by have := lnR_len (listOf s) []; unfold linesL; omega, lines_sub (list_inByte s) (by omega)⟩
theorem open_ok (s : ByteArray) (h : s.size ≤ 1048576) : CallOK Tryd.prog 28 [.str s] [] (.ptr 0 0) [some (.cells bkT (bkC (allB (listOf s)) (openB (listOf s))))] [] := by
  have hs : Sat Tryd.prog 28 [.str s] [] (opK (nbF 0 (linesL (listOf s))) (linesL (listOf s)).length) := fun K hK =>
    calls_sat (env := tab.env y5 (fun _ => 0) (fun _ => false)) ⟨tab.htt, y5.ok⟩ tab.mixed (fun n => keepP_weaker n opR) tab.hft 3 _ _ _ K (by
      show runP opR (fun _ => 0) y5 3 28 [.str s] [] K
      rw [op_entry]
      exact Br.of (fun _ => op_law _ (okLn_lines h) K hK) fun c => absurd h (of_decide_eq_false c))
  obtain ⟨v, σ', d, hv, hc⟩ := hs (fun v σ' d => (nbF 0 (linesL (listOf s)) = [] ∧ v = .ptr 0 0 ∧ σ' = [some (.cells bkT [.nils, .int .i64 (linesL (listOf s)).length, .int .i64 0, .int .i64 0, .int .i64 0])] ∧ d = []) ∨
      ∃ g, (∀ j (h : j < (nbF 0 (linesL (listOf s))).length), g j = lineC (nbF 0 (linesL (listOf s)))[j]) ∧ v = .ptr 0 0 ∧ σ' = [some (.cells bkT [.own 1 0 2 (nbF 0 (linesL (listOf s))).length, .int .i64 (linesL (listOf s)).length, .int .i64 0, .int .i64 0, .int .i64 0]), some (.row lineT 2 (nbF 0 (linesL (listOf s))).length g)] ∧ d = [])
    ⟨fun hq => .inl ⟨hq, rfl, rfl, rfl⟩, fun g hg => .inr ⟨g, hg, rfl, rfl, rfl⟩⟩
  rcases hv with ⟨hq, rfl, rfl, rfl⟩ | ⟨g, hg, rfl, rfl, rfl⟩
  · have := callOK_nilCell (st := 2) (g := qG []) hc
    unfold openB allB bkC
    rw [hq]
    exact this
  · exact callOK_frzCell (g' := qG (nbF 0 (linesL (listOf s)))) rfl (fun i hi => (hg i hi).trans (listG_at (L := nbF 0 (linesL (listOf s))) hi).symm) hc
theorem ropen_ok (s : ByteArray) (h : s.size ≤ 1048576) : CallOK Tryd.prog 36 [.str s] [] (.ptr 0 0) [some (.cells rbT (rbC (linesL (listOf s)) 0 (openB (listOf s))))] [] :=
  run_ok y6 3 fun _ _ K hK => by
    rw [ropen_nf]
    exact Br.of (fun _ => hK) fun c => absurd h (of_decide_eq_false c)
end Go.Proofs.YtjlmofhokbnloaaDoor

namespace Go.Proofs.YtjlmofhokbnloaaDoor
open Go.Se
set_option maxRecDepth 100000
theorem sat_D {B : Know Tryd.prog} {n : Nat} {k : FuncId} {xs : List SV} {σ : List (Option SB)} {Φ : KC → Prop} {u : Nat → Nat} (D : List Nat) (hl : ∀ p, p ∈ D → p < σ.length)
    (h : ∀ K : KC, Φ K → calls (tab.env B u (fun _ => false)) (keepW []) B.dom n k xs σ fun v σ' d => (∀ p, p ∈ d → p ∈ D) ∧ K v σ' D) : Sat Tryd.prog k xs σ Φ := fun K hK => by
  obtain ⟨v, σ', d, ⟨hd, hv⟩, hc⟩ := calls_sat (env := tab.env B u (fun _ => false)) ⟨tab.htt, B.ok⟩ tab.mixed (fun n => keepW_weaker n []) tab.hft n k xs σ _ (h K hK)
  exact ⟨v, σ', D, hv, callOK_dirty hc hd hl⟩
theorem one_lt {σ : List (Option SB)} {a : Option SB} : ∀ p, p ∈ [0] → p < (a :: σ).length := fun p h => by rw [List.mem_singleton.1 h]; exact Nat.zero_lt_succ _
def cOpn : List SV → List (Option SB) → Option (Bool × SV × List (Option SB) × List Nat)
  | [.str s], [] => some (decide (s.size ≤ 1048576), .ptr 0 0, [some (.cells 105 (bkC (allB (listOf s)) (openB (listOf s))))], [])
  | _, _ => none
def cROpn : List SV → List (Option SB) → Option (Bool × SV × List (Option SB) × List Nat)
  | [.str s], [] => some (decide (s.size ≤ 1048576), .ptr 0 0, [some (.cells 56 (rbC (linesL (listOf s)) 0 (openB (listOf s))))], [])
  | _, _ => none
def cTk : List SV → List (Option SB) → KC → Prop
  | [.ptr 0 0, .str w, .int .i64 lo, .int .i64 hi], [some (.cells 105 cs)], K => ∃ (b : Bk) (all : Int), (cs = bkC all b ∧ okBk b ∧ (0 ≤ all ∧ all ≤ 1048577)) ∧
      Br (takeN b w lo hi) (K .nils [some (.cells 105 (bkC all (takeB all b w lo hi)))] [0]) (K (.ro (takeL b).length 1 (strsG (takeL b))) [some (.cells 105 (bkC all (takeB all b w lo hi)))] [0])
  | _, _, _ => False
theorem tk_sat (xs : List SV) (σ : List (Option SB)) : Sat Tryd.prog 29 xs σ (cTk xs σ) := by
  intro K hK
  unfold cTk at hK
  split at hK
  case h_2 => exact hK.elim
  obtain ⟨b, all, ⟨rfl, h1, h2⟩, hK⟩ := hK
  refine sat_D (B := y5) (n := 3) (u := fun _ => 0) (Φ := fun K => Br (takeN b _ _ _) (K _ _ [0]) (K _ _ [0])) [0] one_lt (fun K hK => take_law h1 h2 (fun hN d' hd => ⟨hd, ?_⟩) fun hN d' hd => ⟨hd, ?_⟩) K hK
  · rw [hN] at hK; exact hK
  · rw [hN] at hK; exact hK
def cNx : List SV → List (Option SB) → KC → Prop
  | [.ptr 0 0, .str w], [some (.cells 105 cs)], K => ∃ (b : Bk) (all : Int), (cs = bkC all b ∧ okBk b) ∧ K (.bool (nextV b w)) [some (.cells 105 (bkC all b))] [0]
  | _, _, _ => False
theorem nx_sat (xs : List SV) (σ : List (Option SB)) : Sat Tryd.prog 30 xs σ (cNx xs σ) := by
  intro K hK
  unfold cNx at hK
  split at hK
  case h_2 => exact hK.elim
  obtain ⟨b, all, ⟨rfl, h1⟩, hK⟩ := hK
  exact sat_D (B := y5) (n := 3) (u := fun _ => 0) (Φ := fun K => K _ _ [0]) [0] one_lt (fun K hK => next_law h1 ⟨sub0, hK⟩) K hK
def cNm : List SV → List (Option SB) → KC → Prop
  | [.ptr 0 0, .str s], [some (.cells 105 cs)], K => ∃ (b : Bk) (all : Int), cs = bkC all b ∧ K (.int .i64 (numV b (listOf s))) [some (.cells 105 (bkC all (numBk b (listOf s))))] [0]
  | _, _, _ => False
def cIt : List SV → List (Option SB) → KC → Prop
  | [.ptr 0 0, .str s, .int .i64 lo, .int .i64 hi], [some (.cells 105 cs)], K => ∃ (b : Bk) (all : Int), cs = bkC all b ∧ K (.int .i64 (intV b (listOf s) lo hi)) [some (.cells 105 (bkC all (intBk b (listOf s) lo hi)))] [0]
  | _, _, _ => False
theorem it_sat (xs : List SV) (σ : List (Option SB)) : Sat Tryd.prog 73 xs σ (cIt xs σ) := by
  intro K hK
  unfold cIt at hK
  split at hK
  case h_2 => exact hK.elim
  obtain ⟨b, all, rfl, hK⟩ := hK
  exact sat_D (B := y5) (n := 3) (u := fun _ => 0) (Φ := fun K => K _ _ [0]) [0] one_lt (fun K hK => int_law fun d' hd => ⟨hd, hK⟩) K hK
def cOd : List SV → List (Option SB) → KC → Prop
  | [.ptr 0 0], [some (.cells 105 cs)], K => ∃ (b : Bk) (all : Int), cs = bkC all b ∧ K (.tup []) [some (.cells 105 (bkC all (oddBk b)))] [0]
  | _, _, _ => False
def cSp : List SV → List (Option SB) → KC → Prop
  | [.ptr 0 0], [some (.cells 105 cs)], K => ∃ (b : Bk) (all : Int), cs = bkC all b ∧ K (.tup []) [some (.cells 105 (bkC all (shapeBk b)))] [0]
  | _, _, _ => False
theorem sp_sat (xs : List SV) (σ : List (Option SB)) : Sat Tryd.prog 32 xs σ (cSp xs σ) := by
  intro K hK
  unfold cSp at hK
  split at hK
  case h_2 => exact hK.elim
  obtain ⟨b, all, rfl, hK⟩ := hK
  exact sat_D (B := y5) (n := 3) (u := fun _ => 0) (Φ := fun K => K _ _ [0]) [0] one_lt (fun K hK => shape_law fun d' hd => ⟨hd, hK⟩) K hK
def cEn : List SV → List (Option SB) → KC → Prop
  | [.ptr 0 0], [some (.cells 105 cs)], K => ∃ (b : Bk) (all : Int), cs = bkC all b ∧ K (.tup [.int .i64 (endE b), .int .i64 (endAt b)]) [some (.cells 105 (bkC all (endBk b)))] [0]
  | _, _, _ => False
theorem en_sat (xs : List SV) (σ : List (Option SB)) : Sat Tryd.prog 35 xs σ (cEn xs σ) := by
  intro K hK
  unfold cEn at hK
  split at hK
  case h_2 => exact hK.elim
  obtain ⟨b, all, rfl, hK⟩ := hK
  exact sat_D (B := y5) (n := 3) (u := fun _ => 0) (Φ := fun K => K _ _ [0]) [0] one_lt (fun K hK => end_law fun d' hd => ⟨hd, hK⟩) K hK
/-! The document's. -/
def cRTk : List SV → List (Option SB) → KC → Prop
  | [.ptr 0 0, .str w, .int .i64 lo, .int .i64 hi], [some (.cells 56 cs)], K => ∃ (L : List (List Int)) (pos : Nat) (b : Bk), (cs = rbC L pos b ∧ okLn L ∧ RB L pos b) ∧ ∀ pos' : Nat, RB L pos' (takeB L.length b w lo hi) →
      Br (takeN b w lo hi) (K .nils [some (.cells 56 (rbC L pos' (takeB L.length b w lo hi)))] [0]) (K (.ro (takeL b).length 1 (strsG (takeL b))) [some (.cells 56 (rbC L pos' (takeB L.length b w lo hi)))] [0])
  | _, _, _ => False
theorem rtk_sat (xs : List SV) (σ : List (Option SB)) : Sat Tryd.prog 37 xs σ (cRTk xs σ) := by
  intro K hK
  unfold cRTk at hK
  split at hK
  case h_2 => exact hK.elim
  rename_i w lo hi cs
  obtain ⟨L, pos, b, ⟨rfl, h1, h2⟩, hK⟩ := hK
  refine sat_D (B := y6) (n := 3) (u := fun _ => 0) (Φ := fun K => ∀ pos' : Nat, RB L pos' (takeB L.length b w lo hi) → Br (takeN b w lo hi) (K .nils [some (.cells rbT (rbC L pos' (takeB L.length b w lo hi)))] [0]) (K (.ro (takeL b).length 1 (strsG (takeL b))) [some (.cells rbT (rbC L pos' (takeB L.length b w lo hi)))] [0])) [0] one_lt
    (fun K hK => rtake_law h1 h2 (fun hN pos' hR d' hd => ⟨hd, ?_⟩) fun hN pos' hR d' hd => ⟨hd, ?_⟩) K hK
  · have := hK pos' hR; rw [hN] at this; exact this
  · have := hK pos' hR; rw [hN] at this; exact this
def cRNx : List SV → List (Option SB) → KC → Prop
  | [.ptr 0 0, .str w], [some (.cells 56 cs)], K => ∃ (L : List (List Int)) (pos : Nat) (b : Bk), (cs = rbC L pos b ∧ okLn L ∧ RB L pos b) ∧ ∀ pos' : Nat, RB L pos' b → K (.bool (nextV b w)) [some (.cells 56 (rbC L pos' b))] [0]
  | _, _, _ => False
theorem rnx_sat (xs : List SV) (σ : List (Option SB)) : Sat Tryd.prog 38 xs σ (cRNx xs σ) := by
  intro K hK
  unfold cRNx at hK
  split at hK
  case h_2 => exact hK.elim
  rename_i w cs
  obtain ⟨L, pos, b, ⟨rfl, h1, h2⟩, hK⟩ := hK
  exact sat_D (B := y6) (n := 3) (u := fun _ => 0) (Φ := fun K => ∀ pos' : Nat, RB L pos' b → K (.bool (nextV b w)) [some (.cells rbT (rbC L pos' b))] [0]) [0] one_lt (fun K hK => rnext_law h1 h2 fun pos' hR d' hd => ⟨hd, hK pos' hR⟩) K hK
def cRNm : List SV → List (Option SB) → KC → Prop
  | [.ptr 0 0, .str s], [some (.cells 56 cs)], K => ∃ (L : List (List Int)) (pos : Nat) (b : Bk), cs = rbC L pos b ∧ K (.int .i64 (numV b (listOf s))) [some (.cells 56 (rbC L pos (numBk b (listOf s))))] [0]
  | _, _, _ => False
def cRIt : List SV → List (Option SB) → KC → Prop
  | [.ptr 0 0, .str s, .int .i64 lo, .int .i64 hi], [some (.cells 56 cs)], K => ∃ (L : List (List Int)) (pos : Nat) (b : Bk), cs = rbC L pos b ∧ K (.int .i64 (intV b (listOf s) lo hi)) [some (.cells 56 (rbC L pos (intBk b (listOf s) lo hi)))] [0]
  | _, _, _ => False
theorem rit_sat (xs : List SV) (σ : List (Option SB)) : Sat Tryd.prog 78 xs σ (cRIt xs σ) := by
  intro K hK
  unfold cRIt at hK
  split at hK
  case h_2 => exact hK.elim
  obtain ⟨L, pos, b, rfl, hK⟩ := hK
  exact sat_D (B := y6) (n := 3) (u := fun _ => 0) (Φ := fun K => K _ _ [0]) [0] one_lt (fun K hK => rint_law fun d' hd => ⟨hd, hK⟩) K hK
def cROd : List SV → List (Option SB) → KC → Prop
  | [.ptr 0 0], [some (.cells 56 cs)], K => ∃ (L : List (List Int)) (pos : Nat) (b : Bk), cs = rbC L pos b ∧ K (.tup []) [some (.cells 56 (rbC L pos (oddBk b)))] [0]
  | _, _, _ => False
def cRSp : List SV → List (Option SB) → KC → Prop
  | [.ptr 0 0], [some (.cells 56 cs)], K => ∃ (L : List (List Int)) (pos : Nat) (b : Bk), cs = rbC L pos b ∧ K (.tup []) [some (.cells 56 (rbC L pos (shapeBk b)))] [0]
  | _, _, _ => False
theorem rsp_sat (xs : List SV) (σ : List (Option SB)) : Sat Tryd.prog 40 xs σ (cRSp xs σ) := by
  intro K hK
  unfold cRSp at hK
  split at hK
  case h_2 => exact hK.elim
  obtain ⟨L, pos, b, rfl, hK⟩ := hK
  exact sat_D (B := y6) (n := 3) (u := fun _ => 0) (Φ := fun K => K _ _ [0]) [0] one_lt (fun K hK => rshape_law fun d' hd => ⟨hd, hK⟩) K hK
def cREn : List SV → List (Option SB) → KC → Prop
  | [.ptr 0 0], [some (.cells 56 cs)], K => ∃ (L : List (List Int)) (pos : Nat) (b : Bk), (cs = rbC L pos b ∧ okLn L ∧ RB L pos b) ∧ ∀ pos' : Nat, RB L pos' (endBk b) → K (.tup [.int .i64 (endE b), .int .i64 (endAt b)]) [some (.cells 56 (rbC L pos' (endBk b)))] [0]
  | _, _, _ => False
theorem ren_sat (xs : List SV) (σ : List (Option SB)) : Sat Tryd.prog 41 xs σ (cREn xs σ) := by
  intro K hK
  unfold cREn at hK
  split at hK
  case h_2 => exact hK.elim
  obtain ⟨L, pos, b, ⟨rfl, h1, h2⟩, hK⟩ := hK
  exact sat_D (B := y6) (n := 3) (u := fun _ => 0) (Φ := fun K => ∀ pos' : Nat, RB L pos' (endBk b) → K (.tup [.int .i64 (endE b), .int .i64 (endAt b)]) [some (.cells rbT (rbC L pos' (endBk b)))] [0]) [0] one_lt (fun K hK => rend_law h1 h2 fun pos' hR d' hd => ⟨hd, hK pos' hR⟩) K hK
noncomputable def y7 : Know Tryd.prog := ((((((((((((y6).add 28 (oneIf cOpn) (oneIf_sat fun xs σ v σ' d h => by
    unfold cOpn at h; split at h
    · simp only [Option.some.injEq, Prod.mk.injEq] at h
      obtain ⟨h1, rfl, rfl, rfl⟩ := h
      first | exact open_ok h1 | exact open_ok _ h1 | exact open_ok _ _ h1 | exact open_ok _ _ _ h1 | exact open_ok _ _ _ _ h1 | exact open_ok _ _ _ _ _ h1 | exact open_ok _ _ _ _ _ _ h1 | exact open_ok _ _ _ _ _ _ _ h1 | exact open_ok _ _ _ _ _ _ _ _ h1 | exact open_ok _ _ _ _ _ _ _ _ _ h1 | exact open_ok _ _ _ _ _ _ _ _ _ _ h1 | exact open_ok _ _ _ _ _ _ _ _ _ _ _ h1 | exact open_ok _ _ _ _ _ _ _ _ _ _ _ _ h1 | exact open_ok (of_decide_eq_true h1) | exact open_ok _ (of_decide_eq_true h1) | exact open_ok _ _ (of_decide_eq_true h1) | exact open_ok _ _ _ (of_decide_eq_true h1) | exact open_ok _ _ _ _ (of_decide_eq_true h1) | exact open_ok _ _ _ _ _ (of_decide_eq_true h1) | exact open_ok _ _ _ _ _ _ (of_decide_eq_true h1) | exact open_ok _ _ _ _ _ _ _ (of_decide_eq_true h1) | exact open_ok _ _ _ _ _ _ _ _ (of_decide_eq_true h1) | exact open_ok _ _ _ _ _ _ _ _ _ (of_decide_eq_true h1) | exact open_ok _ _ _ _ _ _ _ _ _ _ (of_decide_eq_true h1) | exact open_ok _ _ _ _ _ _ _ _ _ _ _ (of_decide_eq_true h1) | exact open_ok _ _ _ _ _ _ _ _ _ _ _ _ (of_decide_eq_true h1)
    · cases h)).add 36 (oneIf cROpn) (oneIf_sat fun xs σ v σ' d h => by
    unfold cROpn at h; split at h
    · simp only [Option.some.injEq, Prod.mk.injEq] at h
      obtain ⟨h1, rfl, rfl, rfl⟩ := h
      first | exact ropen_ok h1 | exact ropen_ok _ h1 | exact ropen_ok _ _ h1 | exact ropen_ok _ _ _ h1 | exact ropen_ok _ _ _ _ h1 | exact ropen_ok _ _ _ _ _ h1 | exact ropen_ok _ _ _ _ _ _ h1 | exact ropen_ok _ _ _ _ _ _ _ h1 | exact ropen_ok _ _ _ _ _ _ _ _ h1 | exact ropen_ok _ _ _ _ _ _ _ _ _ h1 | exact ropen_ok _ _ _ _ _ _ _ _ _ _ h1 | exact ropen_ok _ _ _ _ _ _ _ _ _ _ _ h1 | exact ropen_ok _ _ _ _ _ _ _ _ _ _ _ _ h1 | exact ropen_ok (of_decide_eq_true h1) | exact ropen_ok _ (of_decide_eq_true h1) | exact ropen_ok _ _ (of_decide_eq_true h1) | exact ropen_ok _ _ _ (of_decide_eq_true h1) | exact ropen_ok _ _ _ _ (of_decide_eq_true h1) | exact ropen_ok _ _ _ _ _ (of_decide_eq_true h1) | exact ropen_ok _ _ _ _ _ _ (of_decide_eq_true h1) | exact ropen_ok _ _ _ _ _ _ _ (of_decide_eq_true h1) | exact ropen_ok _ _ _ _ _ _ _ _ (of_decide_eq_true h1) | exact ropen_ok _ _ _ _ _ _ _ _ _ (of_decide_eq_true h1) | exact ropen_ok _ _ _ _ _ _ _ _ _ _ (of_decide_eq_true h1) | exact ropen_ok _ _ _ _ _ _ _ _ _ _ _ (of_decide_eq_true h1) | exact ropen_ok _ _ _ _ _ _ _ _ _ _ _ _ (of_decide_eq_true h1)
    · cases h)).add 29 cTk tk_sat).add 30 cNx nx_sat).add 73 cIt it_sat).add 32 cSp sp_sat).add 35 cEn en_sat).add 37 cRTk rtk_sat).add 38 cRNx rnx_sat).add 78 cRIt rit_sat).add 40 cRSp rsp_sat).add 41 cREn ren_sat
end Go.Proofs.YtjlmofhokbnloaaDoor

