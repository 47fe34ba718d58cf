import Derived.Test.YtjlmofhokbnloaaDoorKc
namespace Go.Proofs.YtjlmofhokbnloaaDoor
open Go.Se
set_option maxRecDepth 100000
def nrR : List (Nat × Keep) := [(0, ⟨[0, 6, 7, 8, 9], [], [], 0, []⟩)]
def nrS (s : ByteArray) (n i : Int) : St := ⟨[(0, .str s), (6, .int .i64 0), (7, .bool false), (8, .int .i64 n), (9, .int .i64 i)], [], 0, [], 45⟩
noncomputable abbrev nrE : Env := envL nrR (fun _ => 0) r1 1
noncomputable abbrev nrF : Func := Tryd.f61
abbrev nrP : List Nat := [1, 1, 1, 0, 1, 0]
theorem nr_entry (s : ByteArray) (m : Int) (K : KC) : runL nrR (fun _ => 0) r1 2 61 [.str s, .int .i64 1, .int .i64 m] [] K =
  (Br (decide ((↑s.size : Int) < 1)) (K (SV.tup [SV.int .i64 0, SV.bool false]) [] []) (Br (decide ((↑s.size : Int) > m)) (K (SV.tup [SV.int .i64 0, SV.bool false]) [] []) (∃ q_, loopE nrE (keepW nrR 0) nrF nrP 0 0 K q_ { tmps := [(0, SV.str s), (6, SV.int .i64 0), (7, SV.bool false), (8, SV.int .i64 0), (9, SV.int .i64 0)], store := [], nxt := 0, dirty := [], nt := 45 }))) := by kernel_rfl
theorem nr_round (s : ByteArray) (n : Int) (i : Nat) (K : Ex → St → Prop) : roundE nrE (keepW nrR 0) nrF nrP 0 K (nrS s n i) =
  (Br (decide ((↑i : Int) < (↑s.size : Int))) (Br (decide (0 ≤ (↑i : Int)) && decide ((↑i : Int) < (↑s.size : Int))) (Br (decide ((↑(s.data.getD (↑i : Int).toNat 0).toNat : Int) < 48)) (K Ex.ret { tmps := [(0, SV.str s), (6, SV.int .i64 0), (7, SV.bool false), (8, SV.int .i64 n), (9, SV.int .i64 (↑i : Int))], store := [], nxt := 0, dirty := [], nt := 45 }) (Br (decide (0 ≤ (↑i : Int)) && decide ((↑i : Int) < (↑s.size : Int))) (Br (decide ((↑(s.data.getD (↑i : Int).toNat 0).toNat : Int) > 57)) (K Ex.ret { tmps := [(0, SV.str s), (6, SV.int .i64 0), (7, SV.bool false), (8, SV.int .i64 n), (9, SV.int .i64 (↑i : Int))], store := [], nxt := 0, dirty := [], nt := 45 }) (Br (decide (0 ≤ (↑i : Int)) && decide ((↑i : Int) < (↑s.size : Int))) (K Ex.normal { tmps := [(0, SV.str s), (6, SV.int .i64 0), (7, SV.bool false), (8, SV.int .i64 (IntKind.i64.wrap (IntKind.i64.wrap (10 * n) + IntKind.i64.wrap (IntKind.u8.wrap ((↑(s.data.getD (↑i : Int).toNat 0).toNat : Int) - 48))))), (9, SV.int .i64 (IntKind.i64.wrap ((↑i : Int) + 1)))], store := [], nxt := 0, dirty := [], nt := 45 }) (False))) (False))) (False)) (K (Ex.exit 0) { tmps := [(0, SV.str s), (6, SV.int .i64 0), (7, SV.bool false), (8, SV.int .i64 n), (9, SV.int .i64 (↑i : Int))], store := [], nxt := 0, dirty := [], nt := 45 })) := by kernel_rfl
theorem nr_after (s : ByteArray) (n : Int) (i : Nat) (K : KC) : afterE nrE (keepW nrR 0) nrF nrP 0 K (.exit 0) (nrS s n i) =
  (K (SV.tup [SV.int .i64 n, SV.bool true]) [] []) := by kernel_rfl
theorem nr_ret (s : ByteArray) (n : Int) (i : Nat) (K : KC) : afterE nrE (keepW nrR 0) nrF nrP 0 K .ret (nrS s n i) =
  (K (SV.tup [SV.int .i64 0, SV.bool false]) [] []) := by kernel_rfl
theorem digC_lt {a : Int} (h0 : 0 ≤ a) (h1 : a ≤ 255) (h : a < 48) : decide (digC a > 9) = true := decide_eq_true ((digC_digit h0 h1).2 (by omega))
theorem digC_gt {a : Int} (h0 : 0 ≤ a) (h1 : a ≤ 255) (h : a > 57) : decide (digC a > 9) = true := decide_eq_true ((digC_digit h0 h1).2 (by omega))
theorem digC_in {a : Int} (h0 : 0 ≤ a) (h1 : a ≤ 255) (h : ¬ a < 48) (h' : ¬ a > 57) : decide (digC a > 9) = false := decide_eq_false fun hh => (digC_digit h0 h1).1 hh (by omega)
theorem nr_law (l : List Int) (hb : inByte l) (hl : l.length < 9223372036854775808) (m : Int) (K : KC) (hK : K (.tup [.int .i64 (numN l m), .bool (numB l m)]) [] []) : runL nrR (fun _ => 0) r1 2 61 [.str (bytesOf l), .int .i64 1, .int .i64 m] [] K := by
  rw [nr_entry, bytes_size]
  unfold numN numB numG at hK
  refine Br.of (fun c => ?_) fun c => Br.of (fun d => ?_) fun d => ?_
  · have c := of_decide_eq_true c
    rw [show decide (l.length < 1) = true from decide_eq_true (by omega)] at hK
    exact hK
  · rw [d, Bool.or_true] at hK; exact hK
  · have c := of_decide_eq_false c
    rw [d, show decide (l.length < 1) = false from decide_eq_false (by omega)] at hK
    simp only [Bool.or_self, cond_false] at hK
    refine ⟨l.length + 1, loop_m (fun a : Int × Nat => nrS (bytesOf l) a.1 a.2) (fun a => l.length - a.2) (fun a => a.2 ≤ l.length ∧ K (.tup [.int .i64 ((numS a.1 (l.drop a.2)).getD 0), .bool (numS a.1 (l.drop a.2)).isSome]) [] []) ?_ (l.length + 1) (0, 0) ⟨Nat.zero_le _, hK⟩ (by show l.length - 0 < _; omega)⟩
    rintro ⟨n, i⟩ ⟨h1, h2⟩ X hX
    simp only at h1 h2 hX ⊢
    rw [nr_round]
    simp only [bytes_size, index_nat hb]
    refine Br.of (fun c => ?_) fun c => ?_
    · have c : i < l.length := by have := of_decide_eq_true c; omega
      have hi := hb (l.getD i 0) (getD_mm c)
      rw [drop_getD c] at h2
      unfold numS at h2
      rw [wi64_succ c (by omega)]
      have ret : decide (digC (l.getD i 0) > 9) = true → afterE nrE (keepW nrR 0) nrF nrP 0 K .ret (nrS (bytesOf l) n i) := fun e => by
        rw [nr_ret]; rw [e] at h2; exact h2
      refine Br.of (fun _ => Br.of (fun e => ret (digC_lt hi.1 hi.2 (of_decide_eq_true e))) fun e => Br.of (fun _ => Br.of (fun e2 => ret (digC_gt hi.1 hi.2 (of_decide_eq_true e2))) fun e2 => Br.of (fun _ => ?_) fun f => in_f c f) fun f => in_f c f) fun f => in_f c f
      rw [digC_in hi.1 hi.2 (of_decide_eq_false e) (of_decide_eq_false e2)] at h2
      exact hX (_, i + 1) ⟨c, h2⟩ (by show l.length - (i + 1) < l.length - i; omega)
    · have c : i = l.length := by have := of_decide_eq_false c; omega
      subst c
      rw [List.drop_length] at h2
      show afterE nrE (keepW nrR 0) nrF nrP 0 K (.exit 0) (nrS (bytesOf l) n (l.length : Nat))
      rw [nr_after]; exact h2
def cNumR : List SV → List (Option SB) → Out
  | [.str s, .int .i64 1, .int .i64 m], [] => some (.tup [.int .i64 (numN (listOf s) m), .bool (numB (listOf s) m)], [], [])
  | _, _ => none
theorem rnumber_ok (s : ByteArray) (m : Int) : CallOK Tryd.prog 61 [.str s, .int .i64 1, .int .i64 m] [] (.tup [.int .i64 (numN (listOf s) m), .bool (numB (listOf s) m)]) [] [] :=
  runL_ok nrR (fun _ => 0) r1 2 (fun _ h => nomatch h) fun ⟨hs, _⟩ _ K hK => by
    have hs' : s.size < 9223372036854775808 := hs
    have := nr_law (listOf s) (list_inByte s) (by rw [list_length]; exact hs') m K (hK [] fun _ h => nomatch h)
    rw [bytes_list] at this
    exact this
noncomputable def z1 : Know Tryd.prog := (r1).add 61 (one cNumR) (one_sat fun xs σ v σ' d h => by
    unfold cNumR at h; split at h <;> cases h; first | exact rnumber_ok | exact rnumber_ok _ | exact rnumber_ok _ _ | exact rnumber_ok _ _ _ | exact rnumber_ok _ _ _ _ | exact rnumber_ok _ _ _ _ _ | exact rnumber_ok _ _ _ _ _ _ | exact rnumber_ok _ _ _ _ _ _ _ | exact rnumber_ok _ _ _ _ _ _ _ _ | exact rnumber_ok _ _ _ _ _ _ _ _ _ | exact rnumber_ok _ _ _ _ _ _ _ _ _ _ | exact rnumber_ok _ _ _ _ _ _ _ _ _ _ _)
theorem rreadW_nf (s : ByteArray) (K : KC) : run z1 3 21 [.str s] [] K =
  (Br (decide ((↑s.size : Int) > 0)) (Br (true && decide (0 < (↑s.size : Int))) (Br ((↑(s.data.getD (Int.toNat 0) 0).toNat : Int) == 45) (Br (true && (decide (1 ≤ (↑s.size : Int)) && decide ((↑s.size : Int) ≤ (↑s.size : Int)))) (Br (!numB (listOf (s.extract (Int.toNat 1) (↑s.size : Int).toNat)) 18) (K (SV.tup [SV.int .i64 0, SV.int .i64 24]) [] []) (K (SV.tup [SV.int .i64 (IntKind.i64.wrap (0 - numN (listOf (s.extract (Int.toNat 1) (↑s.size : Int).toNat)) 18)), SV.int .i64 0]) [] [])) (False)) (Br (!numB (listOf s) 18) (K (SV.tup [SV.int .i64 0, SV.int .i64 24]) [] []) (K (SV.tup [SV.int .i64 (numN (listOf s) 18), SV.int .i64 0]) [] []))) (False)) (Br (!numB (listOf s) 18) (K (SV.tup [SV.int .i64 0, SV.int .i64 24]) [] []) (K (SV.tup [SV.int .i64 (numN (listOf s) 18), SV.int .i64 0]) [] []))) := by kernel_rfl
def rrR : List (Nat × Keep) := [(0, ⟨[0, 4, 5], [], [], 0, []⟩), (2, ⟨[4, 6, 7, 8, 9], [], [], 0, []⟩)]
def rrS (s : ByteArray) (neg : Bool) (i : Int) : St := ⟨[(0, .str s), (4, .bool neg), (5, .int .i64 i)], [], 0, [], 105⟩
def rrT (neg : Bool) (n : Int) (ok : Bool) (f k : Int) : St := ⟨[(4, .bool neg), (6, .int .i64 n), (7, .bool ok), (8, .int .i64 f), (9, .int .i64 k)], [], 0, [], 105⟩
noncomputable abbrev rrE : Env := envL rrR (fun _ => 0) z1 2
noncomputable abbrev rrF : Func := Tryd.f19
abbrev rrP : List Nat := [1, 1, 1, 0, 0]
abbrev rrQ : List Nat := [1, 1, 1, 1, 1, 1, 0, 1, 0, 1, 1, 0]
theorem rr_entry (s : ByteArray) (K : KC) : runL rrR (fun _ => 0) z1 3 19 [.str s] [] K =
  (Br (decide ((↑s.size : Int) > 0)) (Br (true && decide (0 < (↑s.size : Int))) (Br ((↑(s.data.getD (Int.toNat 0) 0).toNat : Int) == 45) (Br (true && (decide (1 ≤ (↑s.size : Int)) && decide ((↑s.size : Int) ≤ (↑s.size : Int)))) (∃ q_, loopE rrE (keepW rrR 0) rrF rrP 0 0 K q_ { tmps := [(0, SV.str (s.extract 1 (↑s.size : Int).toNat)), (4, SV.bool true), (5, SV.int .i64 0)], store := [], nxt := 0, dirty := [], nt := 105 }) (False)) (∃ q_, loopE rrE (keepW rrR 0) rrF rrP 0 0 K q_ { tmps := [(0, SV.str s), (4, SV.bool false), (5, SV.int .i64 0)], store := [], nxt := 0, dirty := [], nt := 105 })) (False)) (∃ q_, loopE rrE (keepW rrR 0) rrF rrP 0 0 K q_ { tmps := [(0, SV.str s), (4, SV.bool false), (5, SV.int .i64 0)], store := [], nxt := 0, dirty := [], nt := 105 })) := by kernel_rfl
theorem rr_round (s : ByteArray) (neg : Bool) (i : Nat) (K : Ex → St → Prop) : roundE rrE (keepW rrR 0) rrF rrP 0 K (rrS s neg i) =
  (Br (decide ((↑i : Int) < (↑s.size : Int))) (Br (decide (0 ≤ (↑i : Int)) && decide ((↑i : Int) < (↑s.size : Int))) (Br ((↑(s.data.getD (↑i : Int).toNat 0).toNat : Int) != 46) (K Ex.normal { tmps := [(0, SV.str s), (4, SV.bool neg), (5, SV.int .i64 (IntKind.i64.wrap ((↑i : Int) + 1)))], store := [], nxt := 0, dirty := [], nt := 105 }) (K (Ex.exit 0) { tmps := [(0, SV.str s), (4, SV.bool neg), (5, SV.int .i64 (↑i : Int))], store := [], nxt := 0, dirty := [], nt := 105 })) (False)) (K (Ex.exit 0) { tmps := [(0, SV.str s), (4, SV.bool neg), (5, SV.int .i64 (↑i : Int))], store := [], nxt := 0, dirty := [], nt := 105 })) := by kernel_rfl
theorem rr_after (s : ByteArray) (neg : Bool) (i : Nat) (K : KC) : afterE rrE (keepW rrR 0) rrF rrP 0 K (.exit 0) (rrS s neg i) =
  (Br (true && (decide (0 ≤ (↑i : Int)) && decide ((↑i : Int) ≤ (↑s.size : Int)))) (Br (decide ((↑i : Int) < (↑s.size : Int))) (Br (numB (listOf (s.extract (↑0 : Int).toNat (↑i : Int).toNat)) 10) (Br (decide (0 ≤ IntKind.i64.wrap ((↑i : Int) + 1)) && (decide (IntKind.i64.wrap ((↑i : Int) + 1) ≤ (↑s.size : Int)) && decide ((↑s.size : Int) ≤ (↑s.size : Int)))) (∃ q_, loopE rrE (keepW rrR 0) rrF rrQ 2 0 K q_ { tmps := [(4, SV.bool neg), (6, SV.int .i64 (numN (listOf (s.extract (↑0 : Int).toNat (↑i : Int).toNat)) 10)), (7, SV.bool (numB (listOf (s.extract (IntKind.i64.wrap ((↑i : Int) + 1)).toNat (↑s.size : Int).toNat)) 10)), (8, SV.int .i64 (numN (listOf (s.extract (IntKind.i64.wrap ((↑i : Int) + 1)).toNat (↑s.size : Int).toNat)) 10)), (9, SV.int .i64 (IntKind.i64.wrap (IntKind.i64.wrap ((↑s.size : Int) - (↑i : Int)) - 1)))], store := [], nxt := 0, dirty := [], nt := 105 }) (False)) (Br (!numB (listOf (s.extract (↑0 : Int).toNat (↑i : Int).toNat)) 10) (K (SV.tup [SV.int .i64 0, SV.int .i64 24]) [] []) (Br (decide (numN (listOf (s.extract (↑0 : Int).toNat (↑i : Int).toNat)) 10 > 2147483648)) (K (SV.tup [SV.int .i64 0, SV.int .i64 2]) [] []) (Br (numN (listOf (s.extract (↑0 : Int).toNat (↑i : Int).toNat)) 10 == 2147483648) (Br (!neg) (K (SV.tup [SV.int .i64 0, SV.int .i64 2]) [] []) (Br (numN (listOf (s.extract (↑0 : Int).toNat (↑i : Int).toNat)) 10 == 2147483648) (K (SV.tup [SV.int .i64 (-9223372036854775808), SV.int .i64 0]) [] []) (Br (numN (listOf (s.extract (↑0 : Int).toNat (↑i : Int).toNat)) 10 == 2147483647) (Br (neg) (K (SV.tup [SV.int .i64 (IntKind.i64.wrap (0 - IntKind.i64.wrap (IntKind.i64.wrap (numN (listOf (s.extract (↑0 : Int).toNat (↑i : Int).toNat)) 10 * 4294967296) + 0))), SV.int .i64 0]) [] []) (K (SV.tup [SV.int .i64 (IntKind.i64.wrap (IntKind.i64.wrap (numN (listOf (s.extract (↑0 : Int).toNat (↑i : Int).toNat)) 10 * 4294967296) + 0)), SV.int .i64 0]) [] [])) (Br (neg) (K (SV.tup [SV.int .i64 (IntKind.i64.wrap (0 - IntKind.i64.wrap (IntKind.i64.wrap (numN (listOf (s.extract (↑0 : Int).toNat (↑i : Int).toNat)) 10 * 4294967296) + 0))), SV.int .i64 0]) [] []) (K (SV.tup [SV.int .i64 (IntKind.i64.wrap (IntKind.i64.wrap (numN (listOf (s.extract (↑0 : Int).toNat (↑i : Int).toNat)) 10 * 4294967296) + 0)), SV.int .i64 0]) [] []))))) (Br (numN (listOf (s.extract (↑0 : Int).toNat (↑i : Int).toNat)) 10 == 2147483648) (K (SV.tup [SV.int .i64 (-9223372036854775808), SV.int .i64 0]) [] []) (Br (numN (listOf (s.extract (↑0 : Int).toNat (↑i : Int).toNat)) 10 == 2147483647) (Br (neg) (K (SV.tup [SV.int .i64 (IntKind.i64.wrap (0 - IntKind.i64.wrap (IntKind.i64.wrap (numN (listOf (s.extract (↑0 : Int).toNat (↑i : Int).toNat)) 10 * 4294967296) + 0))), SV.int .i64 0]) [] []) (K (SV.tup [SV.int .i64 (IntKind.i64.wrap (IntKind.i64.wrap (numN (listOf (s.extract (↑0 : Int).toNat (↑i : Int).toNat)) 10 * 4294967296) + 0)), SV.int .i64 0]) [] [])) (Br (neg) (K (SV.tup [SV.int .i64 (IntKind.i64.wrap (0 - IntKind.i64.wrap (IntKind.i64.wrap (numN (listOf (s.extract (↑0 : Int).toNat (↑i : Int).toNat)) 10 * 4294967296) + 0))), SV.int .i64 0]) [] []) (K (SV.tup [SV.int .i64 (IntKind.i64.wrap (IntKind.i64.wrap (numN (listOf (s.extract (↑0 : Int).toNat (↑i : Int).toNat)) 10 * 4294967296) + 0)), SV.int .i64 0]) [] [])))))))) (Br (!numB (listOf (s.extract (↑0 : Int).toNat (↑i : Int).toNat)) 10) (K (SV.tup [SV.int .i64 0, SV.int .i64 24]) [] []) (Br (decide (numN (listOf (s.extract (↑0 : Int).toNat (↑i : Int).toNat)) 10 > 2147483648)) (K (SV.tup [SV.int .i64 0, SV.int .i64 2]) [] []) (Br (numN (listOf (s.extract (↑0 : Int).toNat (↑i : Int).toNat)) 10 == 2147483648) (Br (!neg) (K (SV.tup [SV.int .i64 0, SV.int .i64 2]) [] []) (Br (numN (listOf (s.extract (↑0 : Int).toNat (↑i : Int).toNat)) 10 == 2147483648) (K (SV.tup [SV.int .i64 (-9223372036854775808), SV.int .i64 0]) [] []) (Br (numN (listOf (s.extract (↑0 : Int).toNat (↑i : Int).toNat)) 10 == 2147483647) (Br (neg) (K (SV.tup [SV.int .i64 (IntKind.i64.wrap (0 - IntKind.i64.wrap (IntKind.i64.wrap (numN (listOf (s.extract (↑0 : Int).toNat (↑i : Int).toNat)) 10 * 4294967296) + 0))), SV.int .i64 0]) [] []) (K (SV.tup [SV.int .i64 (IntKind.i64.wrap (IntKind.i64.wrap (numN (listOf (s.extract (↑0 : Int).toNat (↑i : Int).toNat)) 10 * 4294967296) + 0)), SV.int .i64 0]) [] [])) (Br (neg) (K (SV.tup [SV.int .i64 (IntKind.i64.wrap (0 - IntKind.i64.wrap (IntKind.i64.wrap (numN (listOf (s.extract (↑0 : Int).toNat (↑i : Int).toNat)) 10 * 4294967296) + 0))), SV.int .i64 0]) [] []) (K (SV.tup [SV.int .i64 (IntKind.i64.wrap (IntKind.i64.wrap (numN (listOf (s.extract (↑0 : Int).toNat (↑i : Int).toNat)) 10 * 4294967296) + 0)), SV.int .i64 0]) [] []))))) (Br (numN (listOf (s.extract (↑0 : Int).toNat (↑i : Int).toNat)) 10 == 2147483648) (K (SV.tup [SV.int .i64 (-9223372036854775808), SV.int .i64 0]) [] []) (Br (numN (listOf (s.extract (↑0 : Int).toNat (↑i : Int).toNat)) 10 == 2147483647) (Br (neg) (K (SV.tup [SV.int .i64 (IntKind.i64.wrap (0 - IntKind.i64.wrap (IntKind.i64.wrap (numN (listOf (s.extract (↑0 : Int).toNat (↑i : Int).toNat)) 10 * 4294967296) + 0))), SV.int .i64 0]) [] []) (K (SV.tup [SV.int .i64 (IntKind.i64.wrap (IntKind.i64.wrap (numN (listOf (s.extract (↑0 : Int).toNat (↑i : Int).toNat)) 10 * 4294967296) + 0)), SV.int .i64 0]) [] [])) (Br (neg) (K (SV.tup [SV.int .i64 (IntKind.i64.wrap (0 - IntKind.i64.wrap (IntKind.i64.wrap (numN (listOf (s.extract (↑0 : Int).toNat (↑i : Int).toNat)) 10 * 4294967296) + 0))), SV.int .i64 0]) [] []) (K (SV.tup [SV.int .i64 (IntKind.i64.wrap (IntKind.i64.wrap (numN (listOf (s.extract (↑0 : Int).toNat (↑i : Int).toNat)) 10 * 4294967296) + 0)), SV.int .i64 0]) [] [])))))))) (False)) := by kernel_rfl
theorem rr_round2 (neg : Bool) (n : Int) (ok : Bool) (f k : Int) (K : Ex → St → Prop) : roundE rrE (keepW rrR 0) rrF rrQ 2 K (rrT neg n ok f k) =
  (Br (decide (k < 10)) (Br (ok) (K Ex.normal { tmps := [(4, SV.bool neg), (6, SV.int .i64 n), (7, SV.bool ok), (8, SV.int .i64 (IntKind.i64.wrap (10 * f))), (9, SV.int .i64 (IntKind.i64.wrap (k + 1)))], store := [], nxt := 0, dirty := [], nt := 105 }) (K (Ex.exit 2) { tmps := [(4, SV.bool neg), (6, SV.int .i64 n), (7, SV.bool ok), (8, SV.int .i64 f), (9, SV.int .i64 k)], store := [], nxt := 0, dirty := [], nt := 105 })) (K (Ex.exit 2) { tmps := [(4, SV.bool neg), (6, SV.int .i64 n), (7, SV.bool ok), (8, SV.int .i64 f), (9, SV.int .i64 k)], store := [], nxt := 0, dirty := [], nt := 105 })) := by kernel_rfl
theorem rr_after2 (neg : Bool) (n : Int) (ok : Bool) (f k : Int) (K : KC) : afterE rrE (keepW rrR 0) rrF rrQ 0 K (.exit 2) (rrT neg n ok f k) =
  (Br (!ok) (K (SV.tup [SV.int .i64 0, SV.int .i64 24]) [] []) (Br (dOkD (absI (f * 4294967296))) (Br (decide (n > 2147483648)) (K (SV.tup [SV.int .i64 0, SV.int .i64 2]) [] []) (Br (n == 2147483648) (Br (decide (divV (nvD (decide (f * 4294967296 < 0)) (absI (f * 4294967296))) 10000000000 > 0)) (K (SV.tup [SV.int .i64 0, SV.int .i64 2]) [] []) (Br (!neg) (K (SV.tup [SV.int .i64 0, SV.int .i64 2]) [] []) (Br (n == 2147483648) (K (SV.tup [SV.int .i64 (-9223372036854775808), SV.int .i64 0]) [] []) (Br (n == 2147483647) (Br (divV (nvD (decide (f * 4294967296 < 0)) (absI (f * 4294967296))) 10000000000 == 4294967296) (Br (neg) (K (SV.tup [SV.int .i64 (-9223372036854775808), SV.int .i64 0]) [] []) (K (SV.tup [SV.int .i64 0, SV.int .i64 2]) [] [])) (Br (neg) (K (SV.tup [SV.int .i64 (IntKind.i64.wrap (0 - IntKind.i64.wrap (IntKind.i64.wrap (n * 4294967296) + divV (nvD (decide (f * 4294967296 < 0)) (absI (f * 4294967296))) 10000000000))), SV.int .i64 0]) [] []) (K (SV.tup [SV.int .i64 (IntKind.i64.wrap (IntKind.i64.wrap (n * 4294967296) + divV (nvD (decide (f * 4294967296 < 0)) (absI (f * 4294967296))) 10000000000)), SV.int .i64 0]) [] []))) (Br (neg) (K (SV.tup [SV.int .i64 (IntKind.i64.wrap (0 - IntKind.i64.wrap (IntKind.i64.wrap (n * 4294967296) + divV (nvD (decide (f * 4294967296 < 0)) (absI (f * 4294967296))) 10000000000))), SV.int .i64 0]) [] []) (K (SV.tup [SV.int .i64 (IntKind.i64.wrap (IntKind.i64.wrap (n * 4294967296) + divV (nvD (decide (f * 4294967296 < 0)) (absI (f * 4294967296))) 10000000000)), SV.int .i64 0]) [] [])))))) (Br (n == 2147483648) (K (SV.tup [SV.int .i64 (-9223372036854775808), SV.int .i64 0]) [] []) (Br (n == 2147483647) (Br (divV (nvD (decide (f * 4294967296 < 0)) (absI (f * 4294967296))) 10000000000 == 4294967296) (Br (neg) (K (SV.tup [SV.int .i64 (-9223372036854775808), SV.int .i64 0]) [] []) (K (SV.tup [SV.int .i64 0, SV.int .i64 2]) [] [])) (Br (neg) (K (SV.tup [SV.int .i64 (IntKind.i64.wrap (0 - IntKind.i64.wrap (IntKind.i64.wrap (n * 4294967296) + divV (nvD (decide (f * 4294967296 < 0)) (absI (f * 4294967296))) 10000000000))), SV.int .i64 0]) [] []) (K (SV.tup [SV.int .i64 (IntKind.i64.wrap (IntKind.i64.wrap (n * 4294967296) + divV (nvD (decide (f * 4294967296 < 0)) (absI (f * 4294967296))) 10000000000)), SV.int .i64 0]) [] []))) (Br (neg) (K (SV.tup [SV.int .i64 (IntKind.i64.wrap (0 - IntKind.i64.wrap (IntKind.i64.wrap (n * 4294967296) + divV (nvD (decide (f * 4294967296 < 0)) (absI (f * 4294967296))) 10000000000))), SV.int .i64 0]) [] []) (K (SV.tup [SV.int .i64 (IntKind.i64.wrap (IntKind.i64.wrap (n * 4294967296) + divV (nvD (decide (f * 4294967296 < 0)) (absI (f * 4294967296))) 10000000000)), SV.int .i64 0]) [] [])))))) (False))) := by kernel_rfl
theorem readW_nf (s : ByteArray) (K : KC) : run b2 3 20 [.str s] [] K =
  (Br (!numB (listOf (bytesOf (minusL (listOf s)))) 18) (K (SV.tup [SV.int .i64 0, SV.int .i64 24]) [] []) (Br (minusB (listOf s)) (K (SV.tup [SV.int .i64 (IntKind.i64.wrap (0 - numN (listOf (bytesOf (minusL (listOf s)))) 18)), SV.int .i64 0]) [] []) (K (SV.tup [SV.int .i64 (numN (listOf (bytesOf (minusL (listOf s)))) 18), SV.int .i64 0]) [] []))) := by kernel_rfl
theorem rreadW_ok (s : ByteArray) : CallOK Tryd.prog 21 [.str s] [] (.tup [.int .i64 (wholeV (listOf s)), .int .i64 (wholeE (listOf s))]) [] [] := by
  refine run_ok z1 3 fun _ _ K hK => ?_
  rw [rreadW_nf]
  have hb := list_inByte s
  have hmb := minusL_inByte hb
  have hfin : minusB (listOf s) = false → Br (!numB (listOf s) 18) (K (SV.tup [SV.int .i64 0, SV.int .i64 24]) [] []) (K (SV.tup [SV.int .i64 (numN (listOf s) 18), SV.int .i64 0]) [] []) := fun hm => by
    unfold wholeV wholeE at hK
    rw [hm, minus_no hm] at hK
    refine Br.of (fun c => ?_) fun c => ?_
    · rw [Bool.not_eq_true'] at c; rw [c] at hK; exact hK
    · rw [Bool.not_eq_false'] at c; rw [c] at hK; exact hK
  refine Br.of (fun c => ?_) fun c => hfin (minus_nil fun h => of_decide_eq_false c (by omega))
  have c : 0 < s.size := by have := of_decide_eq_true c; omega
  refine Br.of (fun _ => ?_) fun f => absurd f (by simp only [Bool.true_and, decide_eq_false_iff_not]; omega)
  rw [head_minus c]
  refine Br.of (fun hm => ?_) fun hm => hfin hm
  refine Br.of (fun _ => ?_) fun f => absurd f (by simp; omega)
  rw [Int.toNat_natCast, show Int.toNat 1 = 1 from rfl, minus_cut hm, list_bytes hmb]
  unfold wholeV wholeE at hK
  rw [hm] at hK
  refine Br.of (fun c => ?_) fun c => ?_
  · rw [Bool.not_eq_true'] at c; rw [c] at hK; exact hK
  · rw [Bool.not_eq_false'] at c
    rw [c] at hK
    obtain ⟨_, h0, h1⟩ := numN_range hmb (by decide) c
    have := pow_mono (show (minusL (listOf s)).length ≤ 18 by have := numB_len c; omega)
    rw [show IntKind.i64.wrap (0 - numN (minusL (listOf s)) 18) = -numN (minusL (listOf s)) 18 by rw [wi64]; omega]
    exact hK
theorem readW_ok (s : ByteArray) : CallOK Tryd.prog 20 [.str s] [] (.tup [.int .i64 (wholeV (listOf s)), .int .i64 (wholeE (listOf s))]) [] [] := by
  refine run_ok b2 3 fun _ _ K hK => ?_
  have hmb := minusL_inByte (list_inByte s)
  rw [readW_nf, list_bytes hmb]
  unfold wholeV wholeE at hK
  refine Br.of (fun c => ?_) fun c => ?_
  · rw [Bool.not_eq_true'] at c; rw [c] at hK; exact hK
  · rw [Bool.not_eq_false'] at c
    rw [c] at hK
    obtain ⟨_, h0, h1⟩ := numN_range hmb (by decide) c
    have := pow_mono (show (minusL (listOf s)).length ≤ 18 by have := numB_len c; omega)
    refine Br.of (fun e => ?_) fun e => ?_
    · rw [e] at hK
      rw [show IntKind.i64.wrap (0 - numN (minusL (listOf s)) 18) = -numN (minusL (listOf s)) 18 by rw [wi64]; omega]
      exact hK
    · rw [e] at hK; exact hK
theorem read_ok (s : ByteArray) : CallOK Tryd.prog 18 [.str s] [] (.tup [.int .i64 (readV (listOf s)), .int .i64 (readE (listOf s))]) [] [] := by
  refine run_ok b2 3 fun _ _ K hK => ?_
  rw [read_entry]
  exact read_all hK
/-- The document's answer behind the digits. -/
theorem rr_end {n r z : Int} {neg : Bool} {K : KC} (h0 : 0 ≤ n) (h1 : n < 10000000000) (h2 : 0 ≤ r) (h3 : r ≤ 4294967296) (hz : z = bif neg then -(n * 4294967296 + r) else n * 4294967296 + r)
    (hK : K (.tup [.int .i64 (bif in64 z then z else 0), .int .i64 (bif in64 z then 0 else 2)]) [] []) :
    (-9223372036854775808 ≤ z ∧ z ≤ 9223372036854775807 → ∀ X, X = z → K (.tup [.int .i64 X, .int .i64 0]) [] []) ∧ (¬ (-9223372036854775808 ≤ z ∧ z ≤ 9223372036854775807) → K (.tup [.int .i64 0, .int .i64 2]) [] []) := by
  refine ⟨fun h X hX => ?_, fun h => ?_⟩
  · rw [(in64_iff z).2 h] at hK
    rw [hX]; exact hK
  · rw [show in64 z = false by rw [← Bool.not_eq_true, in64_iff]; exact h] at hK
    exact hK
def readOk0 (m : List Int) : Bool := bif numB (cutH 46 m) 10 then (bif hasC 46 m then restB (cutT 46 m) else true) else false
def readZ0 (neg : Bool) (m : List Int) : Int := bif neg then -(numN (cutH 46 m) 10 * 4294967296 + divV ((bif hasC 46 m then restN (cutT 46 m) else 0) * 4294967296) 10000000000) else numN (cutH 46 m) 10 * 4294967296 + divV ((bif hasC 46 m then restN (cutT 46 m) else 0) * 4294967296) 10000000000
theorem rr_fin2 {n f z : Int} {neg : Bool} {k : Int} {K : KC} (h0 : 0 ≤ n) (h1 : n < 10000000000) (f0 : 0 ≤ f) (f1 : f < 10000000000) (hz : z = bif neg then -(n * 4294967296 + divV (f * 4294967296) 10000000000) else n * 4294967296 + divV (f * 4294967296) 10000000000)
    (hK : K (.tup [.int .i64 (bif in64 z then z else 0), .int .i64 (bif in64 z then 0 else 2)]) [] []) : afterE rrE (keepW rrR 0) rrF rrQ 0 K (.exit 2) (rrT neg n true f k) := by
  rw [rr_after2, nvD_pos f0 f1, dOkD_eq]
  obtain ⟨r0, r1⟩ := frac_range f0 f1
  obtain ⟨hg, hb⟩ := rr_end h0 h1 r0 r1 hz hK
  generalize divV (f * 4294967296) 10000000000 = r at hz r0 r1 ⊢
  clear hK
  refine Br.of (fun c => by cases c) fun _ => Br.of (fun _ => ?_) fun c => by cases c
  cases neg <;> simp only [cond_true, cond_false, Bool.not_true, Bool.not_false] at hz ⊢ <;>
  (repeat' refine Br.of (fun h => ?_) fun h => ?_) <;>
  (simp only [decide_eq_true_eq, decide_eq_false_iff_not, beq_iff_eq, beq_eq_false_iff_ne, ne_eq, Bool.false_eq_true, Bool.true_eq_false, reduceCtorEq] at * <;>
  first
    | (exfalso; omega)
    | (refine hb ?_; omega)
    | (refine hg ?_ _ ?_ <;> (try simp only [wi64]) <;> omega))
theorem rr_loop2 {n F z : Int} {neg : Bool} {K : KC} (h0 : 0 ≤ n) (h1 : n < 10000000000) (F1 : F < 10000000000) (hz : z = bif neg then -(n * 4294967296 + divV (F * 4294967296) 10000000000) else n * 4294967296 + divV (F * 4294967296) 10000000000)
    (hK : K (.tup [.int .i64 (bif in64 z then z else 0), .int .i64 (bif in64 z then 0 else 2)]) [] []) (f : Int) (k : Nat) (hk : k ≤ 10) (hf0 : 0 ≤ f) (hF : f * 10 ^ (10 - k) = F) :
    ∃ q, loopE rrE (keepW rrR 0) rrF rrQ 2 0 K q (rrT neg n true f k) := by
  refine ⟨11, loop_m (fun a : Int × Nat => rrT neg n true a.1 a.2) (fun a => 10 - a.2) (fun a => a.2 ≤ 10 ∧ 0 ≤ a.1 ∧ a.1 * 10 ^ (10 - a.2) = F) ?_ 11 (f, k) ⟨hk, hf0, hF⟩ (by show 10 - k < 11; omega)⟩
  rintro ⟨f, k⟩ ⟨hk, hf0, hF⟩ X hX
  simp only at hk hf0 hF hX ⊢
  rw [rr_round2]
  refine Br.of (fun c => Br.of (fun _ => ?_) fun e => by cases e) fun c => ?_
  · have c : k < 10 := by have := of_decide_eq_true c; omega
    have he : 10 - k = (10 - (k + 1)) + 1 := by omega
    rw [he, Int.pow_succ] at hF
    have hp := (pow10_small (k := 10 - (k + 1)) (by omega)).1
    have hF' : f * 10 * 10 ^ (10 - (k + 1)) = F := by rw [← hF, Int.mul_assoc, Int.mul_comm 10]
    have hle : f * 10 ≤ f * 10 * 10 ^ (10 - (k + 1)) := by
      have := Int.mul_le_mul_of_nonneg_left hp (show 0 ≤ f * 10 by omega)
      omega
    rw [show IntKind.i64.wrap (10 * f) = f * 10 by rw [wi64]; omega, wi64_succ c (by decide)]
    exact hX (f * 10, k + 1) ⟨c, by show 0 ≤ f * 10; omega, hF'⟩ (by show 10 - (k + 1) < 10 - k; omega)
  · have c : k = 10 := by have := of_decide_eq_false c; omega
    subst c
    rw [Nat.sub_self, Int.pow_zero, Int.mul_one] at hF
    subst hF
    exact rr_fin2 h0 h1 hf0 F1 hz hK
theorem rr_stop2 {neg : Bool} {n f k : Int} {K : KC} (hK : K (.tup [.int .i64 0, .int .i64 24]) [] []) : ∃ q, loopE rrE (keepW rrR 0) rrF rrQ 2 0 K q (rrT neg n false f k) := by
  have fin3 : afterE rrE (keepW rrR 0) rrF rrQ 0 K (.exit 2) (rrT neg n false f k) := by
    rw [rr_after2]; exact Br.of (fun _ => hK) fun c => by cases c
  refine ⟨1, loop_m (fun _ : Unit => rrT neg n false f k) (fun _ => 0) (fun _ => True) (fun _ _ X _ => ?_) 1 () trivial (by decide)⟩
  rw [rr_round2]
  exact Br.of (fun _ => Br.of (fun e => by cases e) fun _ => fin3) fun _ => fin3
theorem rr_law (l : List Int) (neg : Bool) (hb : inByte l) (hl : l.length < 9223372036854775808) (K : KC)
    (hK : K (.tup [.int .i64 (bif readOk0 l && in64 (readZ0 neg l) then readZ0 neg l else 0), .int .i64 (bif readOk0 l then (bif in64 (readZ0 neg l) then 0 else 2) else 24)]) [] []) : ∃ q, loopE rrE (keepW rrR 0) rrF rrP 0 0 K q (rrS (bytesOf l) neg 0) := by
  refine ⟨l.length + 1, loop_m (fun i : Nat => rrS (bytesOf l) neg i) (fun i => l.length - i) (fun i => i ≤ l.length ∧ (cutH 46 l).length = i + (cutH 46 (l.drop i)).length ∧ hasC 46 l = hasC 46 (l.drop i)) ?_ (l.length + 1) 0 ⟨Nat.zero_le _, by simp, rfl⟩ (by omega)⟩
  rintro i ⟨h1, h2, h3⟩ X hX
  rw [rr_round]
  simp only [bytes_size, index_nat hb]
  have fin : l.length ≤ i ∨ l.getD i 0 = 46 → afterE rrE (keepW rrR 0) rrF rrP 0 K (.exit 0) (rrS (bytesOf l) neg i) := by
    intro h
    rw [cutH_stop h] at h2
    have h2 : (cutH 46 l).length = i := h2
    have hhas : hasC 46 l = decide (i < l.length) := by
      rw [h3]
      by_cases hi : i < l.length
      · rw [decide_eq_true hi, drop_getD hi]
        rcases h with h | h
        · omega
        · unfold hasC; rw [h]; rfl
      · rw [decide_eq_false hi, List.drop_of_length_le (by omega)]; rfl
    have hHb := cutH_inByte (c := 46) hb
    have hTb := cutT_inByte (c := 46) hb
    have eH : listOf ((bytesOf l).extract (Int.toNat 0) ((i : Nat) : Int).toNat) = cutH 46 l := by
      rw [show Int.toNat 0 = ((0 : Nat) : Int).toNat from rfl, extract_nat, ← h2, List.drop_zero, Nat.sub_zero, cut_take, list_bytes hHb]
    rw [rr_after]
    simp only [bytes_size, eH]
    unfold readOk0 readZ0 at hK
    refine Br.of (fun _ => Br.of (fun c => ?_) fun c => ?_) fun f => absurd f (by simp; omega)
    · have c : i < l.length := by have := of_decide_eq_true c; omega
      rw [decide_eq_true c] at hhas
      have w1 : IntKind.i64.wrap ((i : Int) + 1) = ((i + 1 : Nat) : Int) := by rw [wi64]; omega
      have eT : listOf ((bytesOf l).extract (((i + 1 : Nat) : Nat) : Int).toNat ((l.length : Nat) : Int).toNat) = cutT 46 l := by
        rw [Int.toNat_natCast, Int.toNat_natCast, ← h2, cut_bytes_T hhas, list_bytes hTb]
      have hlen := hasC_len hhas
      have w2 : IntKind.i64.wrap (IntKind.i64.wrap ((l.length : Int) - (i : Int)) - 1) = (((cutT 46 l).length : Nat) : Int) := by rw [wi64, wi64]; omega
      simp only [w1, eT, w2]
      rw [hhas] at hK
      refine Br.of (fun d => ?_) fun d => ?_
      · rw [d] at hK
        obtain ⟨_, n0, n1⟩ := numN_range hHb (by decide) d
        have n2 := pow_mono (show (cutH 46 l).length ≤ 10 by have := numB_len d; omega)
        refine Br.of (fun _ => ?_) fun f => absurd f (by simp; omega)
        cases hT : numB (cutT 46 l) 10 with
        | true =>
          obtain ⟨e1, e2⟩ := rest_val hTb hT
          obtain ⟨_, m0, m1⟩ := numN_range hTb (by decide) hT
          have hr := rest_range hTb
          rw [e1] at hK
          exact rr_loop2 n0 (by omega) hr.2 rfl hK (numN (cutT 46 l) 10) (cutT 46 l).length (by have := numB_len hT; omega) m0 e2.symm
        | false =>
          rw [restB_no hT] at hK
          exact rr_stop2 hK
      · rw [d] at hK
        exact Br.of (fun _ => hK) fun c => by rw [d] at c; cases c
    · have c : ¬ i < l.length := by have := of_decide_eq_false c; omega
      rw [decide_eq_false c] at hhas
      rw [hhas] at hK
      refine Br.of (fun d => ?_) fun d => ?_
      · rw [Bool.not_eq_true'] at d; rw [d] at hK; exact hK
      · rw [Bool.not_eq_false'] at d
        rw [d] at hK
        obtain ⟨_, n0, n1⟩ := numN_range hHb (by decide) d
        have n2 := pow_mono (show (cutH 46 l).length ≤ 10 by have := numB_len d; omega)
        simp only [cond_true, cond_false, Bool.true_and] at hK
        have hd0 : divV (0 * 4294967296) 10000000000 = 0 := by decide
        obtain ⟨hg, hbad⟩ := rr_end (r := 0) n0 (by omega) (by decide) (by decide) (by rw [hd0]) hK
        rw [hd0] at hg hbad
        generalize numN (cutH 46 l) 10 = n at *
        clear hK
        cases neg <;> simp only [cond_true, cond_false, Bool.not_true, Bool.not_false] at hg hbad ⊢ <;>
        (repeat' refine Br.of (fun h => ?_) fun h => ?_) <;>
        (simp only [decide_eq_true_eq, decide_eq_false_iff_not, beq_iff_eq, beq_eq_false_iff_ne, ne_eq, Bool.false_eq_true, Bool.true_eq_false, reduceCtorEq] at * <;>
        first
          | (exfalso; omega)
          | (refine hbad ?_; omega)
          | (refine hg ?_ _ ?_ <;> (try simp only [wi64]) <;> omega))
  refine Br.of (fun c => ?_) fun c => fin (.inl (by have := of_decide_eq_false c; omega))
  have c : i < l.length := by have := of_decide_eq_true c; omega
  refine Br.of (fun _ => Br.of (fun d => ?_) fun d => fin (.inr (by simpa using d))) fun f => in_f c f
  have d : l.getD i 0 ≠ 46 := by simpa using d
  obtain ⟨e1, e2⟩ := cutH_step c d
  rw [wi64_succ c (by omega)]
  refine hX (i + 1) ⟨c, ?_, by rw [h3, e2]⟩ (by show l.length - (i + 1) < l.length - i; omega)
  rw [h2, e1]; simp; omega
theorem rread_ok (s : ByteArray) : CallOK Tryd.prog 19 [.str s] [] (.tup [.int .i64 (readV (listOf s)), .int .i64 (readE (listOf s))]) [] [] :=
  runL_ok rrR (fun _ => 0) z1 3 (fun _ h => nomatch h) fun ⟨hs, _⟩ _ K hK => by
    have hs' : s.size < 9223372036854775808 := hs
    have hK := hK [] fun _ h => nomatch h
    have hl := list_length s
    have hb := list_inByte s
    have hmb := minusL_inByte hb
    have hml : (minusL (listOf s)).length ≤ s.size := by
      unfold minusL
      cases minusB (listOf s) with
      | true => simp only [cond_true, List.length_tail]; omega
      | false => simp only [cond_false]; omega
    have hneg : minusB (listOf s) = false → ∃ q, loopE rrE (keepW rrR 0) rrF rrP 0 0 K q (rrS s false 0) := fun hm => by
      have := rr_law (minusL (listOf s)) false hmb (by omega) K (by unfold readV readE readZ readA readF readOk at hK; rw [hm] at hK; exact hK)
      rw [minus_no hm, bytes_list] at this
      exact this
    rw [rr_entry]
    refine Br.of (fun c => ?_) fun c => hneg (minus_nil fun h => of_decide_eq_false c (by omega))
    have c : 0 < s.size := by have := of_decide_eq_true c; omega
    refine Br.of (fun _ => ?_) fun f => absurd f (by simp only [Bool.true_and, decide_eq_false_iff_not]; omega)
    rw [head_minus c]
    refine Br.of (fun hm => ?_) fun hm => hneg hm
    refine Br.of (fun _ => ?_) fun f => absurd f (by simp; omega)
    rw [Int.toNat_natCast, minus_cut hm]
    exact rr_law (minusL (listOf s)) true hmb (by omega) K (by unfold readV readE readZ readA readF readOk at hK; rw [hm] at hK; exact hK)
end Go.Proofs.YtjlmofhokbnloaaDoor

namespace Go.Proofs.YtjlmofhokbnloaaDoor
open Go.Se
set_option maxRecDepth 100000
def smR : List (Nat × Keep) := [(0, ⟨[0, 1, 5], [], [], 0, []⟩)]
def smS (p : List (List Int)) (i : Int) : St := ⟨[(0, .ro p.length 1 (strsG p)), (1, .ro p.length 1 (strsG p)), (5, .int .i64 i)], [], 0, [], 26⟩
noncomputable abbrev smE : Env := envL smR (fun _ => 0) z1 1
noncomputable abbrev smF : Func := Tryd.f22
def cSame : List SV → List (Option SB) → KC → Prop
  | xs, [], K => ∃ p : List (List Int), xs = [.ro p.length 1 (strsG p), .ro p.length 1 (strsG p)] ∧ K (.bool true) [] []
  | _, _ :: _, _ => False
def cReadAny : List SV → List (Option SB) → Out
  | [.str s], [] => some (.tup [.int .i64 (readV (listOf s)), .int .i64 (readE (listOf s))], [], [])
  | _, _ => none
def cReadWAny : List SV → List (Option SB) → Out
  | [.str s], [] => some (.tup [.int .i64 (wholeV (listOf s)), .int .i64 (wholeE (listOf s))], [], [])
  | _, _ => none
def cAwake36 : List SV → List (Option SB) → Out
  | [], [] => some (.bool true, [], [])
  | _, _ => none
noncomputable def y4 : Know Tryd.prog := ((((y3).add 18 (one cReadAny) (one_sat fun xs σ v σ' d h => by
    unfold cReadAny at h; split at h <;> cases h; first | exact read_ok | exact read_ok _ | exact read_ok _ _ | exact read_ok _ _ _ | exact read_ok _ _ _ _ | exact read_ok _ _ _ _ _ | exact read_ok _ _ _ _ _ _ | exact read_ok _ _ _ _ _ _ _ | exact read_ok _ _ _ _ _ _ _ _ | exact read_ok _ _ _ _ _ _ _ _ _ | exact read_ok _ _ _ _ _ _ _ _ _ _ | exact read_ok _ _ _ _ _ _ _ _ _ _ _)).add 20 (one cReadWAny) (one_sat fun xs σ v σ' d h => by
    unfold cReadWAny at h; split at h <;> cases h; first | exact readW_ok | exact readW_ok _ | exact readW_ok _ _ | exact readW_ok _ _ _ | exact readW_ok _ _ _ _ | exact readW_ok _ _ _ _ _ | exact readW_ok _ _ _ _ _ _ | exact readW_ok _ _ _ _ _ _ _ | exact readW_ok _ _ _ _ _ _ _ _ | exact readW_ok _ _ _ _ _ _ _ _ _ | exact readW_ok _ _ _ _ _ _ _ _ _ _ | exact readW_ok _ _ _ _ _ _ _ _ _ _ _)).add 19 (one cReadAny) (one_sat fun xs σ v σ' d h => by
    unfold cReadAny at h; split at h <;> cases h; first | exact rread_ok | exact rread_ok _ | exact rread_ok _ _ | exact rread_ok _ _ _ | exact rread_ok _ _ _ _ | exact rread_ok _ _ _ _ _ | exact rread_ok _ _ _ _ _ _ | exact rread_ok _ _ _ _ _ _ _ | exact rread_ok _ _ _ _ _ _ _ _ | exact rread_ok _ _ _ _ _ _ _ _ _ | exact rread_ok _ _ _ _ _ _ _ _ _ _ | exact rread_ok _ _ _ _ _ _ _ _ _ _ _)).add 21 (one cReadWAny) (one_sat fun xs σ v σ' d h => by
    unfold cReadWAny at h; split at h <;> cases h; first | exact rreadW_ok | exact rreadW_ok _ | exact rreadW_ok _ _ | exact rreadW_ok _ _ _ | exact rreadW_ok _ _ _ _ | exact rreadW_ok _ _ _ _ _ | exact rreadW_ok _ _ _ _ _ _ | exact rreadW_ok _ _ _ _ _ _ _ | exact rreadW_ok _ _ _ _ _ _ _ _ | exact rreadW_ok _ _ _ _ _ _ _ _ _ | exact rreadW_ok _ _ _ _ _ _ _ _ _ _ | exact rreadW_ok _ _ _ _ _ _ _ _ _ _ _)
end Go.Proofs.YtjlmofhokbnloaaDoor

