import Derived.Test.YtjlmofhokbnloaaDoorKa
namespace Go.Proofs.YtjlmofhokbnloaaDoor
open Go.Se
set_option maxRecDepth 100000
theorem cut35_nf (s : ByteArray) (K : KC) : run t4 5 52 [.str s, .str ⟨#[35]⟩] [] K =
  (Br ((⟨#[35]⟩ : ByteArray) == s) (Br (true && (decide (1 ≤ (↑s.size : Int)) && decide ((↑s.size : Int) ≤ (↑s.size : Int)))) (K (SV.tup [SV.str (s.extract 0 0), SV.str (s.extract 1 (↑s.size : Int).toNat), SV.bool true]) [] []) (False)) (Br (decide (idxB s 35 ≥ 0)) (Br (true && (decide (0 ≤ idxB s 35) && decide (idxB s 35 ≤ (↑s.size : Int)))) (Br (decide (0 ≤ IntKind.i64.wrap (idxB s 35 + 1)) && (decide (IntKind.i64.wrap (idxB s 35 + 1) ≤ (↑s.size : Int)) && decide ((↑s.size : Int) ≤ (↑s.size : Int)))) (K (SV.tup [SV.str (s.extract 0 (idxB s 35).toNat), SV.str (s.extract (IntKind.i64.wrap (idxB s 35 + 1)).toNat (↑s.size : Int).toNat), SV.bool true]) [] []) (False)) (False)) (K (SV.tup [SV.str s, SV.str (⟨#[]⟩ : ByteArray), SV.bool false]) [] []))) := by kernel_rfl
abbrev spT : TypeId := 147
def ffR : List (Nat × Keep) := [(0, ⟨[0, 1, 5, 6, 14], [0, 1], [0, 1, 2, 3, 4, 5], 2, [(5, 0)]⟩), (2, ⟨[0, 9, 47, 48, 49], [0, 2], [0, 1, 2, 3, 4, 5], 3, [(47, 0), (9, 2)]⟩)]
def ffS (s : ByteArray) (S : List (Int × Int)) (st : Int) (pos : Nat) : St := ⟨[(0, .str s), (1, .fn (.func 65) [] []), (5, .own 0 0 2 S.length), (6, .int .i64 st), (14, .ptr 1 0)], [(0, some (.row spT 2 S.length (spG S))), (1, some (.iter s pos))], 2, [0, 1, 2, 3, 4, 5], 65⟩
def fgS (s : ByteArray) (S : List (Int × Int)) (N : Nat) (X : Nat → ByteArray) (i : Int) : St := ⟨[(0, .str s), (9, .own 2 0 1 N), (47, .own 0 0 2 S.length), (48, .int .i64 S.length), (49, .int .i64 i)], [(0, some (.row spT 2 S.length (spG S))), (2, some (.row 9 1 N (strR X)))], 3, [0, 1, 2, 3, 4, 5], 65⟩
noncomputable abbrev ffE : Env := envL ffR (fun _ => 0) y1 2
noncomputable abbrev ffF : Func := Tryd.f64
abbrev ffP : List Nat := [1, 1, 1, 0, 1, 0]
abbrev fgP : List Nat := [1, 1, 1, 1, 1, 1, 0, 1, 0]
theorem ff_entry (s : ByteArray) (K : KC) : runL ffR (fun _ => 0) y1 3 64 [.str s, .fn (.func 65) [] []] [] K =
  (∃ q_, loopE ffE (keepW ffR 0) ffF ffP 0 0 K q_ { tmps := [(0, SV.str s), (1, SV.fn (Fn.func 65) [] []), (5, SV.own 0 0 2 0), (6, SV.int .i64 (-1)), (14, SV.ptr 1 0)], store := [(0, some (SB.row 147 2 0 fun (x : Nat) => [SV.int .i64 0, SV.int .i64 0])), (1, some (SB.iter s 0))], nxt := 2, dirty := [0, 1, 2, 3, 4, 5], nt := 65 }) := by kernel_rfl
theorem ff_round (s : ByteArray) (S : List (Int × Int)) (st : Int) (pos : Nat) (K : Ex → St → Prop) : roundE ffE (keepW ffR 0) ffF ffP 0 K (ffS s S st pos) =
  (Br (decide (pos < s.size)) (Br ((↑(Utf8.decode s pos).fst : Int) == 32) (Br (decide (st ≥ 0)) (Br (decide ((S.length + 1) * 16 ≤ 1099511627776) && decide (S.length + 1 < 9223372036854775808) && decide (S.length = S.length)) (K Ex.normal { tmps := [(0, SV.str s), (1, SV.fn (Fn.func 65) [] []), (5, SV.own 0 0 2 (S.length + 1)), (6, SV.int .i64 (IntKind.i64.wrap (↑(BitVec.ofInt IntKind.i64.bits (if IntKind.i64.signed = true then -1 else IntKind.i64.max) ^^^ BitVec.ofInt IntKind.i64.bits st).toNat : Int))), (14, SV.ptr 1 0)], store := [(0, some (SB.row 147 2 (S.length + 1) (rowPut S.length [SV.int .i64 st, SV.int .i64 (↑pos : Int)] (spG S)))), (1, some (SB.iter s (pos + (Utf8.decode s pos).snd)))], nxt := 2, dirty := [0, 1, 2, 3, 4, 5], nt := 65 }) (False)) (K Ex.normal { tmps := [(0, SV.str s), (1, SV.fn (Fn.func 65) [] []), (5, SV.own 0 0 2 S.length), (6, SV.int .i64 st), (14, SV.ptr 1 0)], store := [(0, some (SB.row 147 2 S.length (spG S))), (1, some (SB.iter s (pos + (Utf8.decode s pos).snd)))], nxt := 2, dirty := [0, 1, 2, 3, 4, 5], nt := 65 })) (Br ((↑(Utf8.decode s pos).fst : Int) == 9) (Br (decide (st ≥ 0)) (Br (decide ((S.length + 1) * 16 ≤ 1099511627776) && decide (S.length + 1 < 9223372036854775808) && decide (S.length = S.length)) (K Ex.normal { tmps := [(0, SV.str s), (1, SV.fn (Fn.func 65) [] []), (5, SV.own 0 0 2 (S.length + 1)), (6, SV.int .i64 (IntKind.i64.wrap (↑(BitVec.ofInt IntKind.i64.bits (if IntKind.i64.signed = true then -1 else IntKind.i64.max) ^^^ BitVec.ofInt IntKind.i64.bits st).toNat : Int))), (14, SV.ptr 1 0)], store := [(0, some (SB.row 147 2 (S.length + 1) (rowPut S.length [SV.int .i64 st, SV.int .i64 (↑pos : Int)] (spG S)))), (1, some (SB.iter s (pos + (Utf8.decode s pos).snd)))], nxt := 2, dirty := [0, 1, 2, 3, 4, 5], nt := 65 }) (False)) (K Ex.normal { tmps := [(0, SV.str s), (1, SV.fn (Fn.func 65) [] []), (5, SV.own 0 0 2 S.length), (6, SV.int .i64 st), (14, SV.ptr 1 0)], store := [(0, some (SB.row 147 2 S.length (spG S))), (1, some (SB.iter s (pos + (Utf8.decode s pos).snd)))], nxt := 2, dirty := [0, 1, 2, 3, 4, 5], nt := 65 })) (Br (decide (st < 0)) (K Ex.normal { tmps := [(0, SV.str s), (1, SV.fn (Fn.func 65) [] []), (5, SV.own 0 0 2 S.length), (6, SV.int .i64 (↑pos : Int)), (14, SV.ptr 1 0)], store := [(0, some (SB.row 147 2 S.length (spG S))), (1, some (SB.iter s (pos + (Utf8.decode s pos).snd)))], nxt := 2, dirty := [0, 1, 2, 3, 4, 5], nt := 65 }) (K Ex.normal { tmps := [(0, SV.str s), (1, SV.fn (Fn.func 65) [] []), (5, SV.own 0 0 2 S.length), (6, SV.int .i64 st), (14, SV.ptr 1 0)], store := [(0, some (SB.row 147 2 S.length (spG S))), (1, some (SB.iter s (pos + (Utf8.decode s pos).snd)))], nxt := 2, dirty := [0, 1, 2, 3, 4, 5], nt := 65 })))) (K (Ex.exit 0) { tmps := [(0, SV.str s), (1, SV.fn (Fn.func 65) [] []), (5, SV.own 0 0 2 S.length), (6, SV.int .i64 st), (14, SV.ptr 1 0)], store := [(0, some (SB.row 147 2 S.length (spG S))), (1, some (SB.iter s pos))], nxt := 2, dirty := [0, 1, 2, 3, 4, 5], nt := 65 })) := by kernel_rfl
theorem ff_after (s : ByteArray) (S : List (Int × Int)) (st : Int) (pos : Nat) (K : KC) : afterE ffE (keepW ffR 0) ffF ffP 0 K (.exit 0) (ffS s S st pos) =
  (Br (decide (st ≥ 0)) (Br (decide ((S.length + 1) * 16 ≤ 1099511627776) && decide (S.length + 1 < 9223372036854775808) && decide (S.length = S.length)) (Br (decide (0 ≤ (↑(S.length + 1) : Int)) && (decide ((↑(S.length + 1) : Int) ≤ (↑(S.length + 1) : Int)) && (decide ((↑(S.length + 1) : Int) * 16 ≤ 1099511627776) && decide ((↑(S.length + 1) : Int) < 9223372036854775808)))) (∃ q_, loopE ffE (keepW ffR 0) ffF fgP 2 0 K q_ { tmps := [(0, SV.str s), (9, SV.own 2 0 1 (↑(S.length + 1) : Int).toNat), (47, SV.own 0 0 2 (S.length + 1)), (48, SV.int .i64 (↑(S.length + 1) : Int)), (49, SV.int .i64 0)], store := [(0, some (SB.row 147 2 (S.length + 1) (rowPut S.length [SV.int .i64 st, SV.int .i64 (↑s.size : Int)] (spG S)))), (2, some (SB.row 9 1 (↑(S.length + 1) : Int).toNat fun (x : Nat) => [SV.str (⟨#[]⟩ : ByteArray)]))], nxt := 3, dirty := [0, 1, 2, 3, 4, 5], nt := 65 }) (False)) (False)) (Br (decide (0 ≤ (↑S.length : Int)) && (decide ((↑S.length : Int) ≤ (↑S.length : Int)) && (decide ((↑S.length : Int) * 16 ≤ 1099511627776) && decide ((↑S.length : Int) < 9223372036854775808)))) (∃ q_, loopE ffE (keepW ffR 0) ffF fgP 2 0 K q_ { tmps := [(0, SV.str s), (9, SV.own 2 0 1 (↑S.length : Int).toNat), (47, SV.own 0 0 2 S.length), (48, SV.int .i64 (↑S.length : Int)), (49, SV.int .i64 0)], store := [(0, some (SB.row 147 2 S.length (spG S))), (2, some (SB.row 9 1 (↑S.length : Int).toNat fun (x : Nat) => [SV.str (⟨#[]⟩ : ByteArray)]))], nxt := 3, dirty := [0, 1, 2, 3, 4, 5], nt := 65 }) (False))) := by kernel_rfl
theorem fg_round (s : ByteArray) (S : List (Int × Int)) (N : Nat) (X : Nat → ByteArray) (i : Nat) (K : Ex → St → Prop) : roundE ffE (keepW ffR 0) ffF fgP 2 K (fgS s S N X i) =
  (Br (decide ((↑i : Int) < (↑S.length : Int))) (Br (decide (0 ≤ (↑i : Int)) && decide ((↑i : Int) < (↑S.length : Int))) (Br (decide (0 + (↑i : Int).toNat < S.length)) (Br (decide (0 ≤ (S.getD (0 + (↑i : Int).toNat) (0, 0)).fst) && (decide ((S.getD (0 + (↑i : Int).toNat) (0, 0)).fst ≤ (S.getD (0 + (↑i : Int).toNat) (0, 0)).snd) && decide ((S.getD (0 + (↑i : Int).toNat) (0, 0)).snd ≤ (↑s.size : Int)))) (Br (decide (0 ≤ (↑i : Int)) && decide ((↑i : Int) < (↑N : Int))) (Br (decide (0 + (↑i : Int).toNat < N)) (K Ex.normal { tmps := [(0, SV.str s), (9, SV.own 2 0 1 N), (47, SV.own 0 0 2 S.length), (48, SV.int .i64 (↑S.length : Int)), (49, SV.int .i64 (IntKind.i64.wrap ((↑i : Int) + 1)))], store := [(0, some (SB.row 147 2 S.length (spG S))), (2, some (SB.row 9 1 N (rowPut (0 + (↑i : Int).toNat) [SV.str (s.extract (S.getD (0 + (↑i : Int).toNat) (0, 0)).fst.toNat (S.getD (0 + (↑i : Int).toNat) (0, 0)).snd.toNat)] (strR X))))], nxt := 3, dirty := [0, 1, 2, 3, 4, 5], nt := 65 }) (False)) (False)) (False)) (False)) (False)) (K (Ex.exit 2) { tmps := [(0, SV.str s), (9, SV.own 2 0 1 N), (47, SV.own 0 0 2 S.length), (48, SV.int .i64 (↑S.length : Int)), (49, SV.int .i64 (↑i : Int))], store := [(0, some (SB.row 147 2 S.length (spG S))), (2, some (SB.row 9 1 N (strR X)))], nxt := 3, dirty := [0, 1, 2, 3, 4, 5], nt := 65 })) := by kernel_rfl
theorem fg_after (s : ByteArray) (S : List (Int × Int)) (N : Nat) (X : Nat → ByteArray) (i : Nat) (K : KC) : afterE ffE (keepW ffR 0) ffF fgP 0 K (.exit 2) (fgS s S N X i) =
  (K (SV.own 0 0 1 N) [some (SB.row 9 1 N (strR X))] []) := by kernel_rfl
theorem cut35_ok (s : ByteArray) : CallOK Tryd.prog 52 [.str s, .str ⟨#[35]⟩] [] (.tup [.str (bytesOf (cutH 35 (listOf s))), .str (bytesOf (cutT 35 (listOf s))), .bool (hasC 35 (listOf s))]) [] [] := by
  refine run_ok t4 5 fun ⟨hs, _⟩ _ K hK => ?_
  have hs' : s.size < 9223372036854775808 := hs
  rw [cut35_nf]
  have := cut_law35 (list_inByte s) (by rw [list_length]; exact hs') hK
  rw [bytes_list] at this
  exact this
def cCut2 : List SV → List (Option SB) → Option (Bool × SV × List (Option SB) × List Nat)
  | [.str s, .str t], [] => some (t == ⟨#[35]⟩, .tup [.str (bytesOf (cutH 35 (listOf s))), .str (bytesOf (cutT 35 (listOf s))), .bool (hasC 35 (listOf s))], [], [])
  | _, _ => none
theorem cut2_ok (s t : ByteArray) (h : (t == ⟨#[35]⟩) = true) : CallOK Tryd.prog 52 [.str s, .str t] [] (.tup [.str (bytesOf (cutH 35 (listOf s))), .str (bytesOf (cutT 35 (listOf s))), .bool (hasC 35 (listOf s))]) [] [] := by
  rw [ba_beq, beq_iff_eq] at h
  obtain rfl : t = ⟨#[35]⟩ := ByteArray.ext h
  exact cut35_ok s
/-- The second loop: the pieces out of their places. -/
theorem fg_law (s : ByteArray) (S : List (Int × Int)) (hs : s.size ≤ 1048576) (hS : S.length ≤ 1048577) (hok : ∀ x, x ∈ S → 0 ≤ x.1 ∧ x.1 ≤ x.2 ∧ x.2 ≤ (s.size : Int)) (K : KC) (hK : rowsEndE 9 1 strC (S.map (extL (listOf s))) K) :
    ∃ q, loopE ffE (keepW ffR 0) ffF fgP 2 0 K q (fgS s S S.length (fun _ => ⟨#[]⟩) 0) := by
  refine ⟨S.length + 1, loop_m (fun a : Nat × (Nat → ByteArray) => fgS s S S.length a.2 a.1) (fun a => S.length - a.1) (fun a => a.1 ≤ S.length ∧ ∀ j, j < a.1 → a.2 j = bytesOf (extL (listOf s) (S.getD j (0, 0)))) ?_ (S.length + 1) (0, fun _ => ⟨#[]⟩) ⟨Nat.zero_le _, fun j hj => absurd hj (Nat.not_lt_zero j)⟩ (by show S.length - 0 < _; omega)⟩
  rintro ⟨i, X⟩ ⟨h1, h2⟩ Z hZ
  simp only at h1 h2 hZ ⊢
  rw [fg_round]
  simp only [Nat.zero_add, Int.toNat_natCast]
  refine Br.of (fun c => ?_) fun c => ?_
  · have c : i < S.length := by have := of_decide_eq_true c; omega
    have hm : S.getD i (0, 0) ∈ S := getD_mm (d := (0, 0)) c
    obtain ⟨k1, k2, k3⟩ := hok _ hm
    have he : s.extract (S.getD i (0, 0)).1.toNat (S.getD i (0, 0)).2.toNat = bytesOf (extL (listOf s) (S.getD i (0, 0))) := by
      conv => lhs; rw [← bytes_list s]
      exact extract_bytes _ _ _
    simp only [rowPut_strR, he]
    rw [wi64_succ c (by omega)]
    refine Br.of (fun _ => Br.of (fun _ => Br.of (fun _ => Br.of (fun _ => Br.of (fun _ => ?_) fun f => absurd c (of_decide_eq_false f)) fun f => in_f c f) fun f => ?_) fun f => absurd c (of_decide_eq_false f)) fun f => in_f c f
    · refine hZ (i + 1, updX i (bytesOf (extL (listOf s) (S.getD i (0, 0)))) X) ⟨c, fun j hj => ?_⟩ (by show S.length - (i + 1) < S.length - i; omega)
      have hj : j < i + 1 := hj
      show updX i _ X j = _
      unfold updX
      by_cases hji : j = i
      · rw [decide_eq_true hji, hji]; rfl
      · rw [decide_eq_false hji]; exact h2 j (by omega)
    · simp only [Bool.and_eq_false_iff, decide_eq_false_iff_not] at f; omega
  · have c : i = S.length := by have := of_decide_eq_false c; omega
    subst c
    show afterE ffE (keepW ffR 0) ffF fgP 0 K (.exit 2) (fgS s S S.length X (S.length : Nat))
    rw [fg_after]
    refine hK _ _ (.inr (.inl ⟨strR X, by rw [List.length_map], by rw [List.length_map], fun j hj => ?_⟩))
    rw [List.length_map] at hj
    rw [List.getElem_map]
    have := h2 j hj
    rw [List.getD_eq_getElem?_getD, List.getElem?_eq_getElem hj] at this
    unfold strR strC
    rw [this]; rfl
theorem ff_law (s : ByteArray) (hs : s.size ≤ 1048576) (K : KC) (hK : rowsEndE 9 1 strC (fldA [] (listOf s)) K) : runL ffR (fun _ => 0) y1 3 64 [.str s, .fn (.func 65) [] []] [] K := by
  rw [ff_entry]
  have hl := list_length s
  refine ⟨s.size + 1, loop_m (fun a : List (Int × Int) × Int × Nat => ffS s a.1 a.2.1 a.2.2) (fun a => s.size - a.2.2) (fun a => ffI (listOf s) a.1 a.2.1 a.2.2) ?_ (s.size + 1) ([], -1, 0) ⟨Nat.zero_le _, Nat.le_refl _, fun h => absurd h (by decide), fun x hx => (by cases hx), rfl⟩ (by show s.size - 0 < _; omega)⟩
  rintro ⟨S, st, pos⟩ h X hX
  simp only at h hX ⊢
  have hlen := h.len
  have hle := h.le
  rw [ff_round]
  have hpush : ∀ a b : Int, rowPut S.length [SV.int .i64 a, SV.int .i64 b] (spG S) = spG (S ++ [(a, b)]) := fun a b => listG_push (f := spC) (d := (0, 0)) (x := (a, b)) (L := S)
  have hlen1 : ∀ x : Int × Int, S.length + 1 = (S ++ [x]).length := fun x => by simp
  have hexit : s.size ≤ pos → afterE ffE (keepW ffR 0) ffF ffP 0 K (.exit 0) (ffS s S st pos) := by
    intro hp
    rw [ff_after]
    refine Br.of (fun c => ?_) fun c => ?_
    · have c := of_decide_eq_true c
      obtain ⟨e1, e2⟩ := ff_end1 h (by omega) c
      rw [hl] at e1 e2
      rw [hpush]
      refine Br.of (fun _ => Br.of (fun _ => ?_) fun f => ?_) fun f => lim_f (m := S.length) (by omega) f
      · simp only [Int.toNat_natCast, hlen1 (st, (s.size : Int))]
        exact fg_law s _ hs (by simp; omega) e2 K (by rw [e1]; exact hK)
      · simp only [Bool.and_eq_false_iff, decide_eq_false_iff_not] at f; omega
    · have c := of_decide_eq_false c
      have e1 := ff_end2 h (by omega) (by omega)
      refine Br.of (fun _ => ?_) fun f => ?_
      · simp only [Int.toNat_natCast]
        exact fg_law s S hs (by omega) (fun x hx => by have := h.ok x hx; omega) K (by rw [e1]; exact hK)
      · simp only [Bool.and_eq_false_iff, decide_eq_false_iff_not] at f; omega
  refine Br.of (fun c => ?_) fun c => hexit (by have := of_decide_eq_false c; omega)
  have c := of_decide_eq_true c
  obtain ⟨d1, d2, _⟩ := dec_law s pos c
  have sep : ((((Utf8.decode s pos).1 : Nat) : Int) = 32 ∨ (((Utf8.decode s pos).1 : Nat) : Int) = 9) → nextK X (afterE ffE (keepW ffR 0) ffF ffP 0 K) .normal (ffS s (bif decide (st ≥ 0) then S ++ [(st, (pos : Int))] else S) (bif decide (st ≥ 0) then -1 - st else st) (pos + (Utf8.decode s pos).2)) := by
    intro hs'
    obtain ⟨r1, r2⟩ := rune_sep c hs'
    rw [r2]
    cases hst : decide (st ≥ 0) with
    | true =>
      have := of_decide_eq_true hst
      exact hX (S ++ [(st, (pos : Int))], -1 - st, pos + 1) (ff_sep1 h (by omega) r1 this) (by show s.size - (pos + 1) < s.size - pos; omega)
    | false =>
      have := of_decide_eq_false hst
      exact hX (S, st, pos + 1) (ff_sep2 h (by omega) r1 (show st < 0 by omega)) (by show s.size - (pos + 1) < s.size - pos; omega)
  have hst1 := h.st1
  have sepc : ((((Utf8.decode s pos).1 : Nat) : Int) = 32 ∨ (((Utf8.decode s pos).1 : Nat) : Int) = 9) → ∀ A B : Prop, (decide (st ≥ 0) = true → nextK X (afterE ffE (keepW ffR 0) ffF ffP 0 K) .normal (ffS s (S ++ [(st, (pos : Int))]) (-1 - st) (pos + (Utf8.decode s pos).2)) → A) → (decide (st ≥ 0) = false → nextK X (afterE ffE (keepW ffR 0) ffF ffP 0 K) .normal (ffS s S st (pos + (Utf8.decode s pos).2)) → B) → Br (decide (st ≥ 0)) A B := by
    intro hs' A B hA hB
    have hh := sep hs'
    refine Br.of (fun e => hA e ?_) fun e => hB e ?_
    · rw [e] at hh; exact hh
    · rw [e] at hh; exact hh
  have fin1 : decide (st ≥ 0) = true → nextK X (afterE ffE (keepW ffR 0) ffF ffP 0 K) .normal (ffS s (S ++ [(st, (pos : Int))]) (-1 - st) (pos + (Utf8.decode s pos).2)) →
      Br (decide ((S.length + 1) * 16 ≤ 1099511627776) && decide (S.length + 1 < 9223372036854775808) && decide (S.length = S.length)) (nextK X (afterE ffE (keepW ffR 0) ffF ffP 0 K) .normal { tmps := [(0, SV.str s), (1, SV.fn (Fn.func 65) [] []), (5, SV.own 0 0 2 (S.length + 1)), (6, SV.int .i64 (IntKind.i64.wrap (↑(BitVec.ofInt IntKind.i64.bits (if IntKind.i64.signed = true then -1 else IntKind.i64.max) ^^^ BitVec.ofInt IntKind.i64.bits st).toNat : Int))), (14, SV.ptr 1 0)], store := [(0, some (SB.row spT 2 (S.length + 1) (rowPut S.length [SV.int .i64 st, SV.int .i64 (↑pos : Int)] (spG S)))), (1, some (SB.iter s (pos + (Utf8.decode s pos).snd)))], nxt := 2, dirty := [0, 1, 2, 3, 4, 5], nt := 65 }) False := by
    intro e hh
    have e := of_decide_eq_true e
    have := hst1 e
    refine Br.of (fun _ => ?_) fun f => lim_f (m := S.length) (by omega) f
    rw [not_i64 e (by omega), hpush, hlen1 (st, (pos : Int))]
    exact hh
  refine Br.of (fun e => sepc (.inl (by simpa using e)) _ _ fin1 fun _ hh => hh) fun e => Br.of (fun e2 => sepc (.inr (by simpa using e2)) _ _ fin1 fun _ hh => hh) fun e2 => ?_
  have hw := ff_word h d1 (by omega) (rune_word c (by simpa using e) (by simpa using e2))
  have hx := hX (S, (bif decide (st < 0) then (pos : Int) else st), pos + (Utf8.decode s pos).2) hw (by show s.size - (pos + (Utf8.decode s pos).2) < s.size - pos; omega)
  refine Br.of (fun e3 => ?_) fun e3 => ?_
  · rw [e3] at hx; exact hx
  · rw [e3] at hx; exact hx
theorem fields_ok (s : ByteArray) (h : s.size ≤ 1048576) : CallOK Tryd.prog 64 [.str s, .fn (.func 65) [] []] [] (.ro (fldA [] (listOf s)).length 1 (strsG (fldA [] (listOf s)))) [] [] :=
  runL_rowsE (R := ffR) (u := fun _ => 0) (B := y1) (n := 3) (e := 9) (fun _ => rfl) (fun _ => rfl) fun _ K hK => ff_law s h K hK
def cFields : List SV → List (Option SB) → Option (Bool × SV × List (Option SB) × List Nat)
  | [.str s, .fn (.func 65) [] []], [] => some (decide (s.size ≤ 1048576), .ro (fldA [] (listOf s)).length 1 (strsG (fldA [] (listOf s))), [], [])
  | _, _ => none
noncomputable def y2 : Know Tryd.prog := ((y1).add 52 (oneIf cCut2) (oneIf_sat fun xs σ v σ' d h => by
    unfold cCut2 at h; split at h
    · simp only [Option.some.injEq, Prod.mk.injEq] at h
      obtain ⟨h1, rfl, rfl, rfl⟩ := h
      first | exact cut2_ok h1 | exact cut2_ok _ h1 | exact cut2_ok _ _ h1 | exact cut2_ok _ _ _ h1 | exact cut2_ok _ _ _ _ h1 | exact cut2_ok _ _ _ _ _ h1 | exact cut2_ok _ _ _ _ _ _ h1 | exact cut2_ok _ _ _ _ _ _ _ h1 | exact cut2_ok _ _ _ _ _ _ _ _ h1 | exact cut2_ok _ _ _ _ _ _ _ _ _ h1 | exact cut2_ok _ _ _ _ _ _ _ _ _ _ h1 | exact cut2_ok _ _ _ _ _ _ _ _ _ _ _ h1 | exact cut2_ok _ _ _ _ _ _ _ _ _ _ _ _ h1 | exact cut2_ok (of_decide_eq_true h1) | exact cut2_ok _ (of_decide_eq_true h1) | exact cut2_ok _ _ (of_decide_eq_true h1) | exact cut2_ok _ _ _ (of_decide_eq_true h1) | exact cut2_ok _ _ _ _ (of_decide_eq_true h1) | exact cut2_ok _ _ _ _ _ (of_decide_eq_true h1) | exact cut2_ok _ _ _ _ _ _ (of_decide_eq_true h1) | exact cut2_ok _ _ _ _ _ _ _ (of_decide_eq_true h1) | exact cut2_ok _ _ _ _ _ _ _ _ (of_decide_eq_true h1) | exact cut2_ok _ _ _ _ _ _ _ _ _ (of_decide_eq_true h1) | exact cut2_ok _ _ _ _ _ _ _ _ _ _ (of_decide_eq_true h1) | exact cut2_ok _ _ _ _ _ _ _ _ _ _ _ (of_decide_eq_true h1) | exact cut2_ok _ _ _ _ _ _ _ _ _ _ _ _ (of_decide_eq_true h1)
    · cases h)).add 64 (oneIf cFields) (oneIf_sat fun xs σ v σ' d h => by
    unfold cFields at h; split at h
    · simp only [Option.some.injEq, Prod.mk.injEq] at h
      obtain ⟨h1, rfl, rfl, rfl⟩ := h
      first | exact fields_ok h1 | exact fields_ok _ h1 | exact fields_ok _ _ h1 | exact fields_ok _ _ _ h1 | exact fields_ok _ _ _ _ h1 | exact fields_ok _ _ _ _ _ h1 | exact fields_ok _ _ _ _ _ _ h1 | exact fields_ok _ _ _ _ _ _ _ h1 | exact fields_ok _ _ _ _ _ _ _ _ h1 | exact fields_ok _ _ _ _ _ _ _ _ _ h1 | exact fields_ok _ _ _ _ _ _ _ _ _ _ h1 | exact fields_ok _ _ _ _ _ _ _ _ _ _ _ h1 | exact fields_ok _ _ _ _ _ _ _ _ _ _ _ _ h1 | exact fields_ok (of_decide_eq_true h1) | exact fields_ok _ (of_decide_eq_true h1) | exact fields_ok _ _ (of_decide_eq_true h1) | exact fields_ok _ _ _ (of_decide_eq_true h1) | exact fields_ok _ _ _ _ (of_decide_eq_true h1) | exact fields_ok _ _ _ _ _ (of_decide_eq_true h1) | exact fields_ok _ _ _ _ _ _ (of_decide_eq_true h1) | exact fields_ok _ _ _ _ _ _ _ (of_decide_eq_true h1) | exact fields_ok _ _ _ _ _ _ _ _ (of_decide_eq_true h1) | exact fields_ok _ _ _ _ _ _ _ _ _ (of_decide_eq_true h1) | exact fields_ok _ _ _ _ _ _ _ _ _ _ (of_decide_eq_true h1) | exact fields_ok _ _ _ _ _ _ _ _ _ _ _ (of_decide_eq_true h1) | exact fields_ok _ _ _ _ _ _ _ _ _ _ _ _ (of_decide_eq_true h1)
    · cases h)
theorem pieces_nf (s : ByteArray) (K : KC) : run y2 3 23 [.str s] [] K =
  (Br (decide ((bytesOf (cutH 35 (listOf s))).size ≤ 1048576)) (K (SV.ro (fldA [] (listOf (bytesOf (cutH 35 (listOf s))))).length 1 (strsG (fldA [] (listOf (bytesOf (cutH 35 (listOf s))))))) [] []) (False)) := by kernel_rfl
theorem pieces_ok (s : ByteArray) (h : s.size ≤ 1048576) : CallOK Tryd.prog 23 [.str s] [] (.ro (piecesL (listOf s)).length 1 (strsG (piecesL (listOf s)))) [] [] := by
  refine run_ok y2 3 fun _ _ K hK => ?_
  rw [pieces_nf]
  rw [list_bytes (cutH_inByte (list_inByte s)), bytes_size]
  have hlen : (cutH 35 (listOf s)).length ≤ (listOf s).length := by rw [← cut_take, List.length_take]; exact Nat.min_le_right _ _
  rw [list_length] at hlen
  refine Br.of (fun _ => hK) fun c => ?_
  have := of_decide_eq_false c; omega
def cPieces : List SV → List (Option SB) → Option (Bool × SV × List (Option SB) × List Nat)
  | [.str s], [] => some (decide (s.size ≤ 1048576), .ro (piecesL (listOf s)).length 1 (strsG (piecesL (listOf s))), [], [])
  | _, _ => none
def cLines : List SV → List (Option SB) → Option (Bool × SV × List (Option SB) × List Nat)
  | [.str s], [] => some (decide (s.size ≤ 1048576), .ro (linesL (listOf s)).length 1 (strsG (linesL (listOf s))), [], [])
  | _, _ => none
noncomputable def y3 : Know Tryd.prog := ((((y2).add 23 (oneIf cPieces) (oneIf_sat fun xs σ v σ' d h => by
    unfold cPieces at h; split at h
    · simp only [Option.some.injEq, Prod.mk.injEq] at h
      obtain ⟨h1, rfl, rfl, rfl⟩ := h
      first | exact pieces_ok h1 | exact pieces_ok _ h1 | exact pieces_ok _ _ h1 | exact pieces_ok _ _ _ h1 | exact pieces_ok _ _ _ _ h1 | exact pieces_ok _ _ _ _ _ h1 | exact pieces_ok _ _ _ _ _ _ h1 | exact pieces_ok _ _ _ _ _ _ _ h1 | exact pieces_ok _ _ _ _ _ _ _ _ h1 | exact pieces_ok _ _ _ _ _ _ _ _ _ h1 | exact pieces_ok _ _ _ _ _ _ _ _ _ _ h1 | exact pieces_ok _ _ _ _ _ _ _ _ _ _ _ h1 | exact pieces_ok _ _ _ _ _ _ _ _ _ _ _ _ h1 | exact pieces_ok (of_decide_eq_true h1) | exact pieces_ok _ (of_decide_eq_true h1) | exact pieces_ok _ _ (of_decide_eq_true h1) | exact pieces_ok _ _ _ (of_decide_eq_true h1) | exact pieces_ok _ _ _ _ (of_decide_eq_true h1) | exact pieces_ok _ _ _ _ _ (of_decide_eq_true h1) | exact pieces_ok _ _ _ _ _ _ (of_decide_eq_true h1) | exact pieces_ok _ _ _ _ _ _ _ (of_decide_eq_true h1) | exact pieces_ok _ _ _ _ _ _ _ _ (of_decide_eq_true h1) | exact pieces_ok _ _ _ _ _ _ _ _ _ (of_decide_eq_true h1) | exact pieces_ok _ _ _ _ _ _ _ _ _ _ (of_decide_eq_true h1) | exact pieces_ok _ _ _ _ _ _ _ _ _ _ _ (of_decide_eq_true h1) | exact pieces_ok _ _ _ _ _ _ _ _ _ _ _ _ (of_decide_eq_true h1)
    · cases h)).add 24 (oneIf cPieces) (oneIf_sat fun xs σ v σ' d h => by
    unfold cPieces at h; split at h
    · simp only [Option.some.injEq, Prod.mk.injEq] at h
      obtain ⟨h1, rfl, rfl, rfl⟩ := h
      first | exact rpieces_ok h1 | exact rpieces_ok _ h1 | exact rpieces_ok _ _ h1 | exact rpieces_ok _ _ _ h1 | exact rpieces_ok _ _ _ _ h1 | exact rpieces_ok _ _ _ _ _ h1 | exact rpieces_ok _ _ _ _ _ _ h1 | exact rpieces_ok _ _ _ _ _ _ _ h1 | exact rpieces_ok _ _ _ _ _ _ _ _ h1 | exact rpieces_ok _ _ _ _ _ _ _ _ _ h1 | exact rpieces_ok _ _ _ _ _ _ _ _ _ _ h1 | exact rpieces_ok _ _ _ _ _ _ _ _ _ _ _ h1 | exact rpieces_ok _ _ _ _ _ _ _ _ _ _ _ _ h1 | exact rpieces_ok (of_decide_eq_true h1) | exact rpieces_ok _ (of_decide_eq_true h1) | exact rpieces_ok _ _ (of_decide_eq_true h1) | exact rpieces_ok _ _ _ (of_decide_eq_true h1) | exact rpieces_ok _ _ _ _ (of_decide_eq_true h1) | exact rpieces_ok _ _ _ _ _ (of_decide_eq_true h1) | exact rpieces_ok _ _ _ _ _ _ (of_decide_eq_true h1) | exact rpieces_ok _ _ _ _ _ _ _ (of_decide_eq_true h1) | exact rpieces_ok _ _ _ _ _ _ _ _ (of_decide_eq_true h1) | exact rpieces_ok _ _ _ _ _ _ _ _ _ (of_decide_eq_true h1) | exact rpieces_ok _ _ _ _ _ _ _ _ _ _ (of_decide_eq_true h1) | exact rpieces_ok _ _ _ _ _ _ _ _ _ _ _ (of_decide_eq_true h1) | exact rpieces_ok _ _ _ _ _ _ _ _ _ _ _ _ (of_decide_eq_true h1)
    · cases h)).add 25 (oneIf cLines) (oneIf_sat fun xs σ v σ' d h => by
    unfold cLines at h; split at h
    · simp only [Option.some.injEq, Prod.mk.injEq] at h
      obtain ⟨h1, rfl, rfl, rfl⟩ := h
      first | exact lines_ok h1 | exact lines_ok _ h1 | exact lines_ok _ _ h1 | exact lines_ok _ _ _ h1 | exact lines_ok _ _ _ _ h1 | exact lines_ok _ _ _ _ _ h1 | exact lines_ok _ _ _ _ _ _ h1 | exact lines_ok _ _ _ _ _ _ _ h1 | exact lines_ok _ _ _ _ _ _ _ _ h1 | exact lines_ok _ _ _ _ _ _ _ _ _ h1 | exact lines_ok _ _ _ _ _ _ _ _ _ _ h1 | exact lines_ok _ _ _ _ _ _ _ _ _ _ _ h1 | exact lines_ok _ _ _ _ _ _ _ _ _ _ _ _ h1 | exact lines_ok (of_decide_eq_true h1) | exact lines_ok _ (of_decide_eq_true h1) | exact lines_ok _ _ (of_decide_eq_true h1) | exact lines_ok _ _ _ (of_decide_eq_true h1) | exact lines_ok _ _ _ _ (of_decide_eq_true h1) | exact lines_ok _ _ _ _ _ (of_decide_eq_true h1) | exact lines_ok _ _ _ _ _ _ (of_decide_eq_true h1) | exact lines_ok _ _ _ _ _ _ _ (of_decide_eq_true h1) | exact lines_ok _ _ _ _ _ _ _ _ (of_decide_eq_true h1) | exact lines_ok _ _ _ _ _ _ _ _ _ (of_decide_eq_true h1) | exact lines_ok _ _ _ _ _ _ _ _ _ _ (of_decide_eq_true h1) | exact lines_ok _ _ _ _ _ _ _ _ _ _ _ (of_decide_eq_true h1) | exact lines_ok _ _ _ _ _ _ _ _ _ _ _ _ (of_decide_eq_true h1)
    · cases h)).add 26 (oneIf cLines) (oneIf_sat fun xs σ v σ' d h => by
    unfold cLines at h; split at h
    · simp only [Option.some.injEq, Prod.mk.injEq] at h
      obtain ⟨h1, rfl, rfl, rfl⟩ := h
      first | exact rlines_ok h1 | exact rlines_ok _ h1 | exact rlines_ok _ _ h1 | exact rlines_ok _ _ _ h1 | exact rlines_ok _ _ _ _ h1 | exact rlines_ok _ _ _ _ _ h1 | exact rlines_ok _ _ _ _ _ _ h1 | exact rlines_ok _ _ _ _ _ _ _ h1 | exact rlines_ok _ _ _ _ _ _ _ _ h1 | exact rlines_ok _ _ _ _ _ _ _ _ _ h1 | exact rlines_ok _ _ _ _ _ _ _ _ _ _ h1 | exact rlines_ok _ _ _ _ _ _ _ _ _ _ _ h1 | exact rlines_ok _ _ _ _ _ _ _ _ _ _ _ _ h1 | exact rlines_ok (of_decide_eq_true h1) | exact rlines_ok _ (of_decide_eq_true h1) | exact rlines_ok _ _ (of_decide_eq_true h1) | exact rlines_ok _ _ _ (of_decide_eq_true h1) | exact rlines_ok _ _ _ _ (of_decide_eq_true h1) | exact rlines_ok _ _ _ _ _ (of_decide_eq_true h1) | exact rlines_ok _ _ _ _ _ _ (of_decide_eq_true h1) | exact rlines_ok _ _ _ _ _ _ _ (of_decide_eq_true h1) | exact rlines_ok _ _ _ _ _ _ _ _ (of_decide_eq_true h1) | exact rlines_ok _ _ _ _ _ _ _ _ _ (of_decide_eq_true h1) | exact rlines_ok _ _ _ _ _ _ _ _ _ _ (of_decide_eq_true h1) | exact rlines_ok _ _ _ _ _ _ _ _ _ _ _ (of_decide_eq_true h1) | exact rlines_ok _ _ _ _ _ _ _ _ _ _ _ _ (of_decide_eq_true h1)
    · cases h)
end Go.Proofs.YtjlmofhokbnloaaDoor

