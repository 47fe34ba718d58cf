import Derived.Test.YtjlmofhokbnloaaDoorSc
import Derived.Test.YtjlmofhokbnloaaDoorSeStr
namespace Go.Proofs.YtjlmofhokbnloaaDoor
open Go.Se
set_option maxRecDepth 100000
theorem cutPrefix_entry (s : ByteArray) (K : KC) : run t3 5 51 [.str s, .str ⟨#[45]⟩] [] K =
    Br (decide ((s.size : Int) ≥ 1)) (If (true && (true && decide ((1 : Int) ≤ (s.size : Int)))) (Br (!(s.extract 0 1 == ⟨#[45]⟩)) (K (.tup [.str s, .bool false]) [] [])
      (If (true && (decide ((1 : Int) ≤ (s.size : Int)) && decide ((s.size : Int) ≤ (s.size : Int)))) (K (.tup [.str (s.extract 1 (s.size : Int).toNat), .bool true]) [] []))))
      (K (.tup [.str s, .bool false]) [] []) := by kernel_rfl
theorem cutPrefix_ok (s t : ByteArray) (h : (t == ⟨#[45]⟩) = true) : CallOK Tryd.prog 51 [.str s, .str t] [] (.tup [.str (bytesOf (minusL (listOf s))), .bool (minusB (listOf s))]) [] [] := by
  rw [ba_beq, beq_iff_eq] at h
  have : t = ⟨#[45]⟩ := ByteArray.ext h
  subst this
  refine run_ok t3 5 fun _ _ K hK => ?_
  rw [cutPrefix_entry]
  have := cutPrefix_law (list_inByte s) hK
  rw [bytes_list] at this
  exact this
theorem cut_entry (s : ByteArray) (K : KC) : run t3 5 52 [.str s, .str ⟨#[46]⟩] [] K =
    Br ((⟨#[46]⟩ : ByteArray) == s) (If (true && (decide ((1 : Int) ≤ (s.size : Int)) && decide ((s.size : Int) ≤ (s.size : Int)))) (K (.tup [.str (s.extract 0 0), .str (s.extract 1 (s.size : Int).toNat), .bool true]) [] []))
      (Br (decide (idxB s 46 ≥ 0)) (If (true && (decide ((0 : Int) ≤ idxB s 46) && decide (idxB s 46 ≤ (s.size : Int))))
        (If (decide (0 ≤ IntKind.i64.wrap (idxB s 46 + 1)) && (decide (IntKind.i64.wrap (idxB s 46 + 1) ≤ (s.size : Int)) && decide ((s.size : Int) ≤ (s.size : Int))))
          (K (.tup [.str (s.extract 0 (idxB s 46).toNat), .str (s.extract (IntKind.i64.wrap (idxB s 46 + 1)).toNat (s.size : Int).toNat), .bool true]) [] [])))
        (K (.tup [.str s, .str ⟨#[]⟩, .bool false]) [] [])) := by kernel_rfl
theorem cut_ok (s t : ByteArray) (h : (t == ⟨#[46]⟩) = true) : CallOK Tryd.prog 52 [.str s, .str t] [] (.tup [.str (bytesOf (cutH 46 (listOf s))), .str (bytesOf (cutT 46 (listOf s))), .bool (hasC 46 (listOf s))]) [] [] := by
  rw [ba_beq, beq_iff_eq] at h
  have : t = ⟨#[46]⟩ := ByteArray.ext h
  subst this
  refine run_ok t3 5 fun ⟨hs, _⟩ _ K hK => ?_
  have hs' : s.size < 9223372036854775808 := hs
  rw [cut_entry]
  have := cut_law (list_inByte s) (by rw [list_length]; exact hs') hK
  rw [bytes_list] at this
  exact this
theorem repeat_run : ∀ k : Nat, k ≤ 9 → ∀ K, run t3 5 92 [.str ⟨#[48]⟩, .int .i64 (k : Int)] [] K = K (.str (bytesOf (List.replicate k 48))) [] []
  | 0, _, K => by kernel_rfl
  | 1, _, K => by kernel_rfl
  | 2, _, K => by kernel_rfl
  | 3, _, K => by kernel_rfl
  | 4, _, K => by kernel_rfl
  | 5, _, K => by kernel_rfl
  | 6, _, K => by kernel_rfl
  | 7, _, K => by kernel_rfl
  | 8, _, K => by kernel_rfl
  | 9, _, K => by kernel_rfl
  | k + 10, h, _ => absurd h (by omega)
theorem repeat_ok (s : ByteArray) (k : Int) (h : (s == ⟨#[48]⟩ && (decide (0 ≤ k) && decide (k ≤ 9))) = true) : CallOK Tryd.prog 92 [.str s, .int .i64 k] [] (.str (bytesOf (List.replicate k.toNat 48))) [] [] := by
  simp only [Bool.and_eq_true, decide_eq_true_eq] at h
  obtain ⟨h1, h2, h3⟩ := h
  rw [ba_beq, beq_iff_eq] at h1
  have : s = ⟨#[48]⟩ := ByteArray.ext h1
  subst this
  obtain ⟨n, rfl⟩ := Int.eq_ofNat_of_zero_le h2
  refine run_ok t3 5 fun _ _ K hK => ?_
  rw [repeat_run n (by omega)]
  exact hK
abbrev numId : FuncId := 53
def numR : List (Nat × Keep) := [(0, ⟨[0, 6, 19, 18, 4, 5], [], [], 0, []⟩)]
def numSt (s : ByteArray) (n i : Int) : St := ⟨[(0, .str s), (6, .int .i64 n), (19, .int .i64 i), (18, .int .i64 (s.size : Int)), (4, .int .i64 0), (5, .bool false)], [], 0, [], 35⟩
abbrev numPath : List Nat := [1, 1, 1, 0, 1, 0]
noncomputable abbrev numE : Env := envL numR (fun _ => 0) t3 1
theorem num_entry (K : KC) (s : ByteArray) (m : Int) : runL numR (fun _ => 0) t3 2 numId [.str s, .int .i64 m] [] K =
    Br (s == ⟨#[]⟩) (K (.tup [.int .i64 0, .bool false]) [] []) (Br (decide ((s.size : Int) > m)) (K (.tup [.int .i64 0, .bool false]) [] []) (∃ n, loopE numE (keepW numR 0) Tryd.f53 numPath 0 0 K n (numSt s 0 0))) := by kernel_rfl
theorem num_round (K : Ex → St → Prop) (s : ByteArray) (n i : Int) : roundE numE (keepW numR 0) Tryd.f53 numPath 0 K (numSt s n i) =
    Br (decide (i < (s.size : Int))) (If (decide (0 ≤ i) && decide (i < (s.size : Int))) ((fun c => Br (decide (c > 9)) (K .ret (numSt s n i)) (K .normal (numSt s (IntKind.i64.wrap (IntKind.i64.wrap (10 * n) + IntKind.i64.wrap c)) (IntKind.i64.wrap (i + 1)))))
      (IntKind.u8.wrap (((s.data.getD i.toNat 0).toNat : Int) - 48)))) (K (.exit 0) (numSt s n i)) := by kernel_rfl
theorem num_ret (K : KC) (s : ByteArray) (n i : Int) : afterE numE (keepW numR 0) Tryd.f53 numPath 0 K .ret (numSt s n i) = K (.tup [.int .i64 0, .bool false]) [] [] := by kernel_rfl
theorem num_after (K : KC) (s : ByteArray) (n i : Int) : afterE numE (keepW numR 0) Tryd.f53 numPath 0 K (.exit 0) (numSt s n i) = K (.tup [.int .i64 n, .bool true]) [] [] := by kernel_rfl
theorem num_loop (K : KC) (l : List Int) (hb : inByte l) (hl : l.length < 9223372036854775808) : ∀ (f : Nat) (i : Nat) (n : Int), i + f = l.length → K (.tup [.int .i64 ((numS n (l.drop i)).getD 0), .bool (numS n (l.drop i)).isSome]) [] [] →
    loopE numE (keepW numR 0) Tryd.f53 numPath 0 0 K (f + 1) (numSt (bytesOf l) n i)
  | 0, i, n, hi, hK => by
    rw [loopE_succ, num_round, bytes_size]
    refine Br.of (fun c => ?_) fun _ => ?_
    · have := of_decide_eq_true c; omega
    · show afterE _ _ _ _ _ _ _ _
      rw [num_after]
      rw [List.drop_of_length_le (by omega)] at hK
      exact hK
  | f + 1, i, n, hi, hK => by
    have hlt : i < l.length := by omega
    rw [loopE_succ, num_round, bytes_size]
    refine Br.of (fun c => If.mk ?_ ?_) fun c => ?_
    · simp only [Bool.and_eq_true, decide_eq_true_eq]; omega
    · show Br _ _ _
      rw [Int.toNat_natCast, index_bytes hb]
      have hd : l.drop i = l.getD i 0 :: l.drop (i + 1) := by
        rw [List.drop_eq_getElem_cons hlt, List.getD_eq_getElem?_getD, List.getElem?_eq_getElem hlt]; rfl
      rw [hd] at hK
      unfold numS at hK
      have hc : IntKind.u8.wrap (l.getD i 0 - 48) = digC (l.getD i 0) := rfl
      rw [hc]
      refine Br.of (fun e => ?_) fun e => ?_
      · rw [e] at hK
        show afterE _ _ _ _ _ _ _ _
        rw [num_ret]
        exact hK
      · rw [e] at hK
        rw [show IntKind.i64.wrap ((i : Int) + 1) = ((i + 1 : Nat) : Int) by rw [wi64]; omega]
        show loopE _ _ _ _ _ _ _ _ _
        exact num_loop K l hb hl f (i + 1) _ (by omega) hK
    · have := of_decide_eq_false c; omega
theorem number_ok (s : ByteArray) (m : Int) : CallOK Tryd.prog numId [.str s, .int .i64 m] [] (.tup [.int .i64 (numN (listOf s) m), .bool (numB (listOf s) m)]) [] [] :=
  runL_ok numR (fun _ => 0) t3 2 (fun _ h => nomatch h) fun ⟨hs, _⟩ _ K hK => by
    have hs' : s.size < 9223372036854775808 := hs
    have hK := hK [] fun _ h => nomatch h
    rw [num_entry]
    unfold numN numB numG at hK
    rw [list_length] at hK
    have he : (s == ⟨#[]⟩) = decide (s.size < 1) := by
      have := bytes_nil (listOf s)
      rw [bytes_list, list_length] at this
      exact this
    rw [he]
    refine Br.of (fun c => ?_) fun c => Br.of (fun d => ?_) fun d => ?_
    · rw [c] at hK; exact hK
    · rw [c, d] at hK; exact hK
    · rw [c, d] at hK
      refine ⟨s.size + 1, ?_⟩
      have := num_loop K (listOf s) (list_inByte s) (by rw [list_length]; exact hs') s.size 0 0 (by rw [list_length]; omega) hK
      rw [bytes_list] at this
      exact this
noncomputable def b1 : Know Tryd.prog := ((((t4).add 51 (oneIf cCutPrefix) (oneIf_sat fun xs σ v σ' d h => by
    unfold cCutPrefix at h; split at h
    · simp only [Option.some.injEq, Prod.mk.injEq] at h
      obtain ⟨h1, rfl, rfl, rfl⟩ := h
      first | exact cutPrefix_ok h1 | exact cutPrefix_ok _ h1 | exact cutPrefix_ok _ _ h1 | exact cutPrefix_ok _ _ _ h1 | exact cutPrefix_ok _ _ _ _ h1 | exact cutPrefix_ok _ _ _ _ _ h1 | exact cutPrefix_ok _ _ _ _ _ _ h1 | exact cutPrefix_ok _ _ _ _ _ _ _ h1 | exact cutPrefix_ok _ _ _ _ _ _ _ _ h1 | exact cutPrefix_ok _ _ _ _ _ _ _ _ _ h1 | exact cutPrefix_ok _ _ _ _ _ _ _ _ _ _ h1 | exact cutPrefix_ok _ _ _ _ _ _ _ _ _ _ _ h1 | exact cutPrefix_ok _ _ _ _ _ _ _ _ _ _ _ _ h1 | exact cutPrefix_ok (of_decide_eq_true h1) | exact cutPrefix_ok _ (of_decide_eq_true h1) | exact cutPrefix_ok _ _ (of_decide_eq_true h1) | exact cutPrefix_ok _ _ _ (of_decide_eq_true h1) | exact cutPrefix_ok _ _ _ _ (of_decide_eq_true h1) | exact cutPrefix_ok _ _ _ _ _ (of_decide_eq_true h1) | exact cutPrefix_ok _ _ _ _ _ _ (of_decide_eq_true h1) | exact cutPrefix_ok _ _ _ _ _ _ _ (of_decide_eq_true h1) | exact cutPrefix_ok _ _ _ _ _ _ _ _ (of_decide_eq_true h1) | exact cutPrefix_ok _ _ _ _ _ _ _ _ _ (of_decide_eq_true h1) | exact cutPrefix_ok _ _ _ _ _ _ _ _ _ _ (of_decide_eq_true h1) | exact cutPrefix_ok _ _ _ _ _ _ _ _ _ _ _ (of_decide_eq_true h1) | exact cutPrefix_ok _ _ _ _ _ _ _ _ _ _ _ _ (of_decide_eq_true h1)
    · cases h)).add 52 (oneIf cCut) (oneIf_sat fun xs σ v σ' d h => by
    unfold cCut at h; split at h
    · simp only [Option.some.injEq, Prod.mk.injEq] at h
      obtain ⟨h1, rfl, rfl, rfl⟩ := h
      first | exact cut_ok h1 | exact cut_ok _ h1 | exact cut_ok _ _ h1 | exact cut_ok _ _ _ h1 | exact cut_ok _ _ _ _ h1 | exact cut_ok _ _ _ _ _ h1 | exact cut_ok _ _ _ _ _ _ h1 | exact cut_ok _ _ _ _ _ _ _ h1 | exact cut_ok _ _ _ _ _ _ _ _ h1 | exact cut_ok _ _ _ _ _ _ _ _ _ h1 | exact cut_ok _ _ _ _ _ _ _ _ _ _ h1 | exact cut_ok _ _ _ _ _ _ _ _ _ _ _ h1 | exact cut_ok _ _ _ _ _ _ _ _ _ _ _ _ h1 | exact cut_ok (of_decide_eq_true h1) | exact cut_ok _ (of_decide_eq_true h1) | exact cut_ok _ _ (of_decide_eq_true h1) | exact cut_ok _ _ _ (of_decide_eq_true h1) | exact cut_ok _ _ _ _ (of_decide_eq_true h1) | exact cut_ok _ _ _ _ _ (of_decide_eq_true h1) | exact cut_ok _ _ _ _ _ _ (of_decide_eq_true h1) | exact cut_ok _ _ _ _ _ _ _ (of_decide_eq_true h1) | exact cut_ok _ _ _ _ _ _ _ _ (of_decide_eq_true h1) | exact cut_ok _ _ _ _ _ _ _ _ _ (of_decide_eq_true h1) | exact cut_ok _ _ _ _ _ _ _ _ _ _ (of_decide_eq_true h1) | exact cut_ok _ _ _ _ _ _ _ _ _ _ _ (of_decide_eq_true h1) | exact cut_ok _ _ _ _ _ _ _ _ _ _ _ _ (of_decide_eq_true h1)
    · cases h)).add 92 (oneIf cRepeat) (oneIf_sat fun xs σ v σ' d h => by
    unfold cRepeat at h; split at h
    · simp only [Option.some.injEq, Prod.mk.injEq] at h
      obtain ⟨h1, rfl, rfl, rfl⟩ := h
      first | exact repeat_ok h1 | exact repeat_ok _ h1 | exact repeat_ok _ _ h1 | exact repeat_ok _ _ _ h1 | exact repeat_ok _ _ _ _ h1 | exact repeat_ok _ _ _ _ _ h1 | exact repeat_ok _ _ _ _ _ _ h1 | exact repeat_ok _ _ _ _ _ _ _ h1 | exact repeat_ok _ _ _ _ _ _ _ _ h1 | exact repeat_ok _ _ _ _ _ _ _ _ _ h1 | exact repeat_ok _ _ _ _ _ _ _ _ _ _ h1 | exact repeat_ok _ _ _ _ _ _ _ _ _ _ _ h1 | exact repeat_ok _ _ _ _ _ _ _ _ _ _ _ _ h1 | exact repeat_ok (of_decide_eq_true h1) | exact repeat_ok _ (of_decide_eq_true h1) | exact repeat_ok _ _ (of_decide_eq_true h1) | exact repeat_ok _ _ _ (of_decide_eq_true h1) | exact repeat_ok _ _ _ _ (of_decide_eq_true h1) | exact repeat_ok _ _ _ _ _ (of_decide_eq_true h1) | exact repeat_ok _ _ _ _ _ _ (of_decide_eq_true h1) | exact repeat_ok _ _ _ _ _ _ _ (of_decide_eq_true h1) | exact repeat_ok _ _ _ _ _ _ _ _ (of_decide_eq_true h1) | exact repeat_ok _ _ _ _ _ _ _ _ _ (of_decide_eq_true h1) | exact repeat_ok _ _ _ _ _ _ _ _ _ _ (of_decide_eq_true h1) | exact repeat_ok _ _ _ _ _ _ _ _ _ _ _ (of_decide_eq_true h1) | exact repeat_ok _ _ _ _ _ _ _ _ _ _ _ _ (of_decide_eq_true h1)
    · cases h)).add 53 (one cNumber) (one_sat fun xs σ v σ' d h => by
    unfold cNumber at h; split at h <;> cases h; first | exact number_ok | exact number_ok _ | exact number_ok _ _ | exact number_ok _ _ _ | exact number_ok _ _ _ _ | exact number_ok _ _ _ _ _ | exact number_ok _ _ _ _ _ _ | exact number_ok _ _ _ _ _ _ _ | exact number_ok _ _ _ _ _ _ _ _ | exact number_ok _ _ _ _ _ _ _ _ _ | exact number_ok _ _ _ _ _ _ _ _ _ _ | exact number_ok _ _ _ _ _ _ _ _ _ _ _)
end Go.Proofs.YtjlmofhokbnloaaDoor

namespace Go.Proofs.YtjlmofhokbnloaaDoor
open Go.Se
set_option maxRecDepth 100000
theorem rest_entry (s : ByteArray) (K : KC) : run b1 2 54 [.str s] [] K = Br (!numB (listOf s) 10) (K (.tup [.int .i64 0, .bool false]) [] [])
    ((fun k => If (true && (decide (0 ≤ k) && decide (k ≤ 9))) (If (decide (s.size + (bytesOf (List.replicate k.toNat 48)).size < 9223372036854775808)) ((fun z => K (.tup [.int .i64 (numN (listOf z) 10), .bool (numB (listOf z) 10)]) [] []) (s ++ bytesOf (List.replicate k.toNat 48)))))
      (IntKind.i64.wrap (10 - (s.size : Int)))) := by kernel_rfl
theorem rest_ok (s : ByteArray) : CallOK Tryd.prog 54 [.str s] [] (.tup [.int .i64 (restN (listOf s)), .bool (restB (listOf s))]) [] [] :=
  run_ok b1 2 fun _ _ K hK => by
    rw [rest_entry]
    unfold restN restB at hK
    refine Br.of (fun c => ?_) fun c => ?_
    · have : numB (listOf s) 10 = false := by simpa using c
      rw [this] at hK; exact hK
    · have hn : numB (listOf s) 10 = true := by simpa using c
      obtain ⟨h1, h2⟩ := numB_len hn
      rw [list_length] at h1 h2
      rw [hn] at hK
      have hk : IntKind.i64.wrap (10 - (s.size : Int)) = ((10 - s.size : Nat) : Int) := by rw [wi64]; omega
      rw [hk]
      refine If.mk (by simp only [Bool.true_and, Bool.and_eq_true, decide_eq_true_eq]; omega) (If.mk ?_ ?_)
      · rw [bytes_size, List.length_replicate]
        exact decide_eq_true (by omega)
      · have hz : listOf (s ++ bytesOf (List.replicate (((10 - s.size : Nat) : Int)).toNat 48)) = padR (listOf s) := by
          conv => lhs; rw [← bytes_list s]
          rw [bytes_append, bytes_list, list_bytes (pad_inByte (list_inByte s) _)]
          unfold padR
          rw [list_length, Int.toNat_natCast]
        show K (.tup [.int .i64 (numN (listOf (s ++ bytesOf (List.replicate (((10 - s.size : Nat) : Int)).toNat 48))) 10), .bool (numB (listOf (s ++ bytesOf (List.replicate (((10 - s.size : Nat) : Int)).toNat 48))) 10)]) [] []
        rw [hz]
        exact hK
noncomputable def b2 : Know Tryd.prog := (b1).add 54 (one cRest) (one_sat fun xs σ v σ' d h => by
    unfold cRest at h; split at h <;> cases h; first | exact rest_ok | exact rest_ok _ | exact rest_ok _ _ | exact rest_ok _ _ _ | exact rest_ok _ _ _ _ | exact rest_ok _ _ _ _ _ | exact rest_ok _ _ _ _ _ _ | exact rest_ok _ _ _ _ _ _ _ | exact rest_ok _ _ _ _ _ _ _ _ | exact rest_ok _ _ _ _ _ _ _ _ _ | exact rest_ok _ _ _ _ _ _ _ _ _ _ | exact rest_ok _ _ _ _ _ _ _ _ _ _ _)
theorem read_entry (s : ByteArray) (K : KC) : run b2 3 18 [.str s] [] K = rdP s K := by kernel_rfl
end Go.Proofs.YtjlmofhokbnloaaDoor

