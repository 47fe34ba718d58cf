import Derived.Test.YtjlmofhokbnloaaDoorSa
import Derived.Test.YtjlmofhokbnloaaDoorSeNum
import Derived.Test.YtjlmofhokbnloaaDoorSeRefM
import Derived.Test.YtjlmofhokbnloaaDoorSeStr
namespace Go.Proofs.YtjlmofhokbnloaaDoor
open Go.Se
set_option maxRecDepth 100000
def triR : List (Nat × Keep) := [(0, ⟨[0, 1, 4], [], [], 0, []⟩)]
def triS (s : ByteArray) (c : Int) : St := ⟨[(0, .str s), (1, .int .u8 c), (4, .str ⟨#[]⟩)], [], 0, [], 23⟩
abbrev triPath : List Nat := [1, 0, 0]
noncomputable abbrev triE : Env := envL triR (fun _ => 0) k0 1
theorem tri_entry (K : KC) (s : ByteArray) (c : Int) : runL triR (fun _ => 0) k0 2 123 [.str s, .int .u8 c] [] K = ∃ n, loopE triE (keepW triR 0) Tryd.f123 triPath 0 0 K n (triS s c) := by kernel_rfl
def inB (s : ByteArray) : Bool := decide (0 ≤ IntKind.i64.wrap ((s.size : Int) - 1)) && decide (IntKind.i64.wrap ((s.size : Int) - 1) < (s.size : Int))
def inC (s : ByteArray) : Bool := true && (decide (((0 : Nat) : Int) ≤ IntKind.i64.wrap ((s.size : Int) - 1)) && decide (IntKind.i64.wrap ((s.size : Int) - 1) ≤ (s.size : Int)))
theorem tri_round (K : Ex → St → Prop) (s : ByteArray) (c : Int) : roundE triE (keepW triR 0) Tryd.f123 triPath 0 K (triS s c) =
    Br (decide ((s.size : Int) > 0)) (If (inB s) (Br (lastB s == c) (If (inC s) (K .normal (triS (cutB s) c))) (K (.exit 0) (triS s c)))) (K (.exit 0) (triS s c)) := by kernel_rfl
theorem tri_after (K : KC) (s : ByteArray) (c : Int) : afterE triE (keepW triR 0) Tryd.f123 triPath 0 K (.exit 0) (triS s c) = K (.str s) [] [] := by kernel_rfl
theorem inB_ok {a : Int} {r : List Int} (h : (a :: r).length < 9223372036854775808) : inB (bytesOf (a :: r).reverse) = true := by
  unfold inB
  rw [last_size h, bytes_size]
  simp only [Bool.and_eq_true, decide_eq_true_eq, List.length_reverse, List.length_cons]
  omega
theorem inC_ok {a : Int} {r : List Int} (h : (a :: r).length < 9223372036854775808) : inC (bytesOf (a :: r).reverse) = true := by
  unfold inC
  rw [last_size h, bytes_size]
  simp only [Bool.true_and, Bool.and_eq_true, decide_eq_true_eq, List.length_reverse, List.length_cons]
  omega
theorem tri_loop (K : KC) : ∀ (f : Nat) (r : List Int), r.length = f → inByte r → r.length < 9223372036854775808 → K (.str (bytesOf (rdrop r).reverse)) [] [] → loopE triE (keepW triR 0) Tryd.f123 triPath 0 0 K (f + 1) (triS (bytesOf r.reverse) 48)
  | 0, r, hf, _, _, hK => by
    have : r = [] := List.length_eq_zero_iff.1 hf
    subst this
    rw [loopE_succ, tri_round]
    refine Br.of (fun c => ?_) fun _ => ?_
    · have := of_decide_eq_true c
      rw [bytes_size] at this
      simp at this
    · show afterE _ _ _ _ _ _ _ _
      rw [tri_after]
      exact hK
  | f + 1, r, hf, hb, hl, hK => by
    obtain ⟨a, r, rfl⟩ : ∃ a r', r = a :: r' := by
      cases r with
      | nil => simp at hf
      | cons a r => exact ⟨a, r, rfl⟩
    have ha := hb a (List.mem_cons_self ..)
    have hf' : r.length = f := by simpa using hf
    rw [loopE_succ, tri_round, inB_ok hl, inC_ok hl, last_bytes hl ha.1 ha.2, cut_bytes hl]
    unfold rdrop at hK
    refine Br.of (fun _ => If.mk rfl (Br.of (fun c => If.mk rfl ?_) fun c => ?_)) fun c => ?_
    · rw [c] at hK
      show loopE _ _ _ _ _ _ _ _ _
      exact tri_loop K f r hf' (fun x hx => hb x (List.mem_cons_of_mem _ hx)) (by simp only [List.length_cons] at hl; omega) hK
    · rw [c] at hK
      show afterE _ _ _ _ _ _ _ _
      rw [tri_after]
      exact hK
    · have := of_decide_eq_false c
      rw [bytes_size] at this
      simp only [List.length_reverse, List.length_cons] at this
      omega
theorem tri_ok (s : ByteArray) : CallOK Tryd.prog 123 [.str s, .int .u8 48] [] (.str (trimB s)) [] [] :=
  runL_ok triR (fun _ => 0) k0 2 (fun _ h => nomatch h) fun ⟨hs, _⟩ _ K hK => by
    have hs' : s.size < 9223372036854775808 := hs
    have hK := hK [] fun _ h => nomatch h
    rw [tri_entry]
    have hl := list_length s
    refine ⟨s.size + 1, ?_⟩
    have := tri_loop K s.size (listOf s).reverse (by rw [List.length_reverse, hl]) (fun x hx => list_inByte s x (by simpa using hx)) (by rw [List.length_reverse, hl]; exact hs') hK
    rw [List.reverse_reverse, bytes_list] at this
    exact this
def cTri : List SV → List (Option SB) → OutIf
  | [.str s, .int .u8 c], [] => some (c == 48, .str (trimB s), [], [])
  | _, _ => none
theorem tri_ok' (s : ByteArray) (c : Int) (h : (c == 48) = true) : CallOK Tryd.prog 123 [.str s, .int .u8 c] [] (.str (trimB s)) [] [] := by
  have : c = 48 := by simpa using h
  subst this; exact tri_ok s
noncomputable def t1 : Know Tryd.prog := (((k8).add 123 (oneIf cTri) (oneIf_sat fun xs σ v σ' d h => by
    unfold cTri at h; split at h
    · simp only [Option.some.injEq, Prod.mk.injEq] at h
      obtain ⟨h1, rfl, rfl, rfl⟩ := h
      first | exact tri_ok' h1 | exact tri_ok' _ h1 | exact tri_ok' _ _ h1 | exact tri_ok' _ _ _ h1 | exact tri_ok' _ _ _ _ h1 | exact tri_ok' _ _ _ _ _ h1 | exact tri_ok' _ _ _ _ _ _ h1 | exact tri_ok' _ _ _ _ _ _ _ h1 | exact tri_ok' _ _ _ _ _ _ _ _ h1 | exact tri_ok' _ _ _ _ _ _ _ _ _ h1 | exact tri_ok' _ _ _ _ _ _ _ _ _ _ h1 | exact tri_ok' _ _ _ _ _ _ _ _ _ _ _ h1 | exact tri_ok' _ _ _ _ _ _ _ _ _ _ _ _ h1 | exact tri_ok' (of_decide_eq_true h1) | exact tri_ok' _ (of_decide_eq_true h1) | exact tri_ok' _ _ (of_decide_eq_true h1) | exact tri_ok' _ _ _ (of_decide_eq_true h1) | exact tri_ok' _ _ _ _ (of_decide_eq_true h1) | exact tri_ok' _ _ _ _ _ (of_decide_eq_true h1) | exact tri_ok' _ _ _ _ _ _ (of_decide_eq_true h1) | exact tri_ok' _ _ _ _ _ _ _ (of_decide_eq_true h1) | exact tri_ok' _ _ _ _ _ _ _ _ (of_decide_eq_true h1) | exact tri_ok' _ _ _ _ _ _ _ _ _ (of_decide_eq_true h1) | exact tri_ok' _ _ _ _ _ _ _ _ _ _ (of_decide_eq_true h1) | exact tri_ok' _ _ _ _ _ _ _ _ _ _ _ (of_decide_eq_true h1) | exact tri_ok' _ _ _ _ _ _ _ _ _ _ _ _ (of_decide_eq_true h1)
    · cases h)).add 86 (oneIf cDigits) (oneIf_sat fun xs σ v σ' d h => by
    unfold cDigits at h; split at h
    · simp only [Option.some.injEq, Prod.mk.injEq] at h
      obtain ⟨h1, rfl, rfl, rfl⟩ := h
      first | exact digits_ok h1 | exact digits_ok _ h1 | exact digits_ok _ _ h1 | exact digits_ok _ _ _ h1 | exact digits_ok _ _ _ _ h1 | exact digits_ok _ _ _ _ _ h1 | exact digits_ok _ _ _ _ _ _ h1 | exact digits_ok _ _ _ _ _ _ _ h1 | exact digits_ok _ _ _ _ _ _ _ _ h1 | exact digits_ok _ _ _ _ _ _ _ _ _ h1 | exact digits_ok _ _ _ _ _ _ _ _ _ _ h1 | exact digits_ok _ _ _ _ _ _ _ _ _ _ _ h1 | exact digits_ok _ _ _ _ _ _ _ _ _ _ _ _ h1 | exact digits_ok (of_decide_eq_true h1) | exact digits_ok _ (of_decide_eq_true h1) | exact digits_ok _ _ (of_decide_eq_true h1) | exact digits_ok _ _ _ (of_decide_eq_true h1) | exact digits_ok _ _ _ _ (of_decide_eq_true h1) | exact digits_ok _ _ _ _ _ (of_decide_eq_true h1) | exact digits_ok _ _ _ _ _ _ (of_decide_eq_true h1) | exact digits_ok _ _ _ _ _ _ _ (of_decide_eq_true h1) | exact digits_ok _ _ _ _ _ _ _ _ (of_decide_eq_true h1) | exact digits_ok _ _ _ _ _ _ _ _ _ (of_decide_eq_true h1) | exact digits_ok _ _ _ _ _ _ _ _ _ _ (of_decide_eq_true h1) | exact digits_ok _ _ _ _ _ _ _ _ _ _ _ (of_decide_eq_true h1) | exact digits_ok _ _ _ _ _ _ _ _ _ _ _ _ (of_decide_eq_true h1)
    · cases h)).add 56 (one cMul) (one_sat fun xs σ v σ' d h => by
    unfold cMul at h; split at h <;> cases h; first | exact mul_ok | exact mul_ok _ | exact mul_ok _ _ | exact mul_ok _ _ _ | exact mul_ok _ _ _ _ | exact mul_ok _ _ _ _ _ | exact mul_ok _ _ _ _ _ _ | exact mul_ok _ _ _ _ _ _ _ | exact mul_ok _ _ _ _ _ _ _ _ | exact mul_ok _ _ _ _ _ _ _ _ _ | exact mul_ok _ _ _ _ _ _ _ _ _ _ | exact mul_ok _ _ _ _ _ _ _ _ _ _ _)
theorem trimRight_ok (s : ByteArray) : CallOK Tryd.prog 107 [.str s, .str ⟨#[48]⟩] [] (.str (trimB s)) [] [] :=
  run_ok t1 2 fun _ _ K hK => by
    have E : ∀ K, run t1 2 107 [.str s, .str ⟨#[48]⟩] [] K = Br (s == ⟨#[]⟩) (K (.str s) [] []) (K (.str (trimB s)) [] []) := fun K => by kernel_rfl
    rw [E]
    refine Br.of (fun c => ?_) fun _ => hK
    have : s = ⟨#[]⟩ := by
      rw [ba_beq, beq_iff_eq] at c
      exact ByteArray.ext c
    subst this
    exact hK
def cTrimRight : List SV → List (Option SB) → OutIf
  | [.str s, .str t], [] => some (t == ⟨#[48]⟩, .str (trimB s), [], [])
  | _, _ => none
theorem trimRight_ok' (s t : ByteArray) (h : (t == ⟨#[48]⟩) = true) : CallOK Tryd.prog 107 [.str s, .str t] [] (.str (trimB s)) [] [] := by
  rw [ba_beq, beq_iff_eq] at h
  have : t = ⟨#[48]⟩ := ByteArray.ext h
  subst this; exact trimRight_ok s
noncomputable def t2 : Know Tryd.prog := (t1).add 107 (oneIf cTrimRight) (oneIf_sat fun xs σ v σ' d h => by
    unfold cTrimRight at h; split at h
    · simp only [Option.some.injEq, Prod.mk.injEq] at h
      obtain ⟨h1, rfl, rfl, rfl⟩ := h
      first | exact trimRight_ok' h1 | exact trimRight_ok' _ h1 | exact trimRight_ok' _ _ h1 | exact trimRight_ok' _ _ _ h1 | exact trimRight_ok' _ _ _ _ h1 | exact trimRight_ok' _ _ _ _ _ h1 | exact trimRight_ok' _ _ _ _ _ _ h1 | exact trimRight_ok' _ _ _ _ _ _ _ h1 | exact trimRight_ok' _ _ _ _ _ _ _ _ h1 | exact trimRight_ok' _ _ _ _ _ _ _ _ _ h1 | exact trimRight_ok' _ _ _ _ _ _ _ _ _ _ h1 | exact trimRight_ok' _ _ _ _ _ _ _ _ _ _ _ h1 | exact trimRight_ok' _ _ _ _ _ _ _ _ _ _ _ _ h1 | exact trimRight_ok' (of_decide_eq_true h1) | exact trimRight_ok' _ (of_decide_eq_true h1) | exact trimRight_ok' _ _ (of_decide_eq_true h1) | exact trimRight_ok' _ _ _ (of_decide_eq_true h1) | exact trimRight_ok' _ _ _ _ (of_decide_eq_true h1) | exact trimRight_ok' _ _ _ _ _ (of_decide_eq_true h1) | exact trimRight_ok' _ _ _ _ _ _ (of_decide_eq_true h1) | exact trimRight_ok' _ _ _ _ _ _ _ (of_decide_eq_true h1) | exact trimRight_ok' _ _ _ _ _ _ _ _ (of_decide_eq_true h1) | exact trimRight_ok' _ _ _ _ _ _ _ _ _ (of_decide_eq_true h1) | exact trimRight_ok' _ _ _ _ _ _ _ _ _ _ (of_decide_eq_true h1) | exact trimRight_ok' _ _ _ _ _ _ _ _ _ _ _ (of_decide_eq_true h1) | exact trimRight_ok' _ _ _ _ _ _ _ _ _ _ _ _ (of_decide_eq_true h1)
    · cases h)
def oneStr (a b : ByteArray) (K : KC) : Prop := If (decide (a.size + b.size < 9223372036854775808)) (K (.str (a ++ b)) [] [])
theorem whole_entry (n : Int) (K : KC) : run t2 3 47 [.int .i64 n] [] K =
    Br (decide (n < 0)) (oneStr ⟨#[45]⟩ (bytesOf (digL10 (IntKind.u64.wrap (0 - IntKind.u64.wrap n)) 1)) K) (oneStr ⟨#[]⟩ (bytesOf (digL10 (IntKind.u64.wrap n) 1)) K) := by kernel_rfl
theorem oneStr_law {a b : List Int} {K : KC} (h : a.length + b.length < 9223372036854775808) (hK : K (.str (bytesOf (a ++ b))) [] []) : oneStr (bytesOf a) (bytesOf b) K := by
  unfold oneStr
  rw [bytes_append]
  exact If.mk (decide_eq_true (by rw [bytes_size, bytes_size]; exact h)) hK
theorem dig_len (u least : Int) : (digL10 u least).length ≤ 20 := by
  have := digA_length 20 u least 0 []
  rw [List.length_nil, Nat.zero_add] at this
  exact this
theorem whole_ok (n : Int) : CallOK Tryd.prog 47 [.int .i64 n] [] (.str (bytesOf (wholeL n))) [] [] :=
  run_ok t2 3 fun ⟨hn, _⟩ _ K hK => by
    have hn' : -9223372036854775808 ≤ n ∧ n ≤ 9223372036854775807 := hn
    rw [whole_entry]
    unfold wholeL signL absI at hK
    refine Br.of (fun c => ?_) fun c => ?_ <;> rw [c] at hK <;> simp only [wu64]
    · have := of_decide_eq_true c
      rw [show (0 - n % 18446744073709551616) % 18446744073709551616 = -n by omega]
      exact oneStr_law (a := [45]) (by have := dig_len (-n) 1; simp; omega) hK
    · have := of_decide_eq_false c
      rw [show n % 18446744073709551616 = n by omega]
      exact oneStr_law (a := []) (by have := dig_len n 1; simp; omega) hK
end Go.Proofs.YtjlmofhokbnloaaDoor

namespace Go.Proofs.YtjlmofhokbnloaaDoor
open Go.Se
set_option maxRecDepth 100000
theorem text_entry (n : Int) (K : KC) : run t2 3 68 [.int .i64 n] [] K =
    Br (decide (n < 0)) (textT ⟨#[45]⟩ (IntKind.u64.wrap (0 - IntKind.u64.wrap n)) K) (textT ⟨#[]⟩ (IntKind.u64.wrap n) K) := by kernel_rfl
theorem text_ok (n : Int) : CallOK Tryd.prog 68 [.int .i64 n] [] (.str (bytesOf (textL n))) [] [] :=
  run_ok t2 3 fun ⟨hn, _⟩ _ K hK => by
    have hn' : -9223372036854775808 ≤ n ∧ n ≤ 9223372036854775807 := hn
    rw [text_entry]
    have hK' : K (.str (bytesOf (signL n ++ (digL10 (absI n / 4294967296) 1 ++ fracL (absI n))))) [] [] := hK
    unfold signL absI at hK'
    refine Br.of (fun c => ?_) fun c => ?_ <;> rw [c] at hK' <;> simp only [wu64]
    · have := of_decide_eq_true c
      rw [show (0 - n % 18446744073709551616) % 18446744073709551616 = -n by omega]
      exact textT_law (sg := [45]) (by omega) (by omega) (by simp) hK'
    · have := of_decide_eq_false c
      rw [show n % 18446744073709551616 = n by omega]
      exact textT_law (sg := []) (by omega) (by omega) (by simp) hK'
noncomputable def r1 : Know Tryd.prog := ((q6).add 88 (one cDigitsR) (one_sat fun xs σ v σ' d h => by
    unfold cDigitsR at h; split at h <;> cases h; first | exact rdigits_ok | exact rdigits_ok _ | exact rdigits_ok _ _ | exact rdigits_ok _ _ _ | exact rdigits_ok _ _ _ _ | exact rdigits_ok _ _ _ _ _ | exact rdigits_ok _ _ _ _ _ _ | exact rdigits_ok _ _ _ _ _ _ _ | exact rdigits_ok _ _ _ _ _ _ _ _ | exact rdigits_ok _ _ _ _ _ _ _ _ _ | exact rdigits_ok _ _ _ _ _ _ _ _ _ _ | exact rdigits_ok _ _ _ _ _ _ _ _ _ _ _)).add 63 (one cMulN) (one_sat fun xs σ v σ' d h => by
    unfold cMulN at h; split at h <;> cases h; first | exact mulN_ok | exact mulN_ok _ | exact mulN_ok _ _ | exact mulN_ok _ _ _ | exact mulN_ok _ _ _ _ | exact mulN_ok _ _ _ _ _ | exact mulN_ok _ _ _ _ _ _ | exact mulN_ok _ _ _ _ _ _ _ | exact mulN_ok _ _ _ _ _ _ _ _ | exact mulN_ok _ _ _ _ _ _ _ _ _ | exact mulN_ok _ _ _ _ _ _ _ _ _ _ | exact mulN_ok _ _ _ _ _ _ _ _ _ _ _)
theorem rwhole_entry (n : Int) (K : KC) : run r1 3 50 [.int .i64 n] [] K =
    Br (decide (n < 0)) (oneStr ⟨#[45]⟩ (bytesOf (digL10 (absI n) 1)) K) (K (.str (bytesOf (digL10 (IntKind.u64.wrap n) 1))) [] []) := by kernel_rfl
theorem rwhole_ok (n : Int) : CallOK Tryd.prog 50 [.int .i64 n] [] (.str (bytesOf (wholeL n))) [] [] :=
  run_ok r1 3 fun ⟨hn, _⟩ _ K hK => by
    have hn' : -9223372036854775808 ≤ n ∧ n ≤ 9223372036854775807 := hn
    rw [rwhole_entry]
    unfold wholeL signL at hK
    refine Br.of (fun c => ?_) fun c => ?_ <;> rw [c] at hK
    · exact oneStr_law (a := [45]) (by have := digL10_length (absI n) 1; simp only [List.length_cons, List.length_nil]; omega) hK
    · have := of_decide_eq_false c
      rw [wu64, show n % 18446744073709551616 = absI n by unfold absI; rw [c]; simp only [cond_false]; omega]
      exact hK
end Go.Proofs.YtjlmofhokbnloaaDoor

namespace Go.Proofs.YtjlmofhokbnloaaDoor
open Go.Se
set_option maxRecDepth 100000
def rtxR : List (Nat × Keep) := [(0, ⟨[4, 7, 2], [], [], 0, []⟩), (2, ⟨[4, 7, 2], [], [], 0, []⟩)]
def rtxS (s f : ByteArray) : St := ⟨[(4, .str s), (7, .str f), (2, .str ⟨#[]⟩)], [], 0, [], 51⟩
abbrev rtxP1 : List Nat := [1, 1, 1, 1, 1, 1, 1, 0, 0]
abbrev rtxP2 : List Nat := [1, 1, 1, 1, 1, 1, 1, 1, 0, 0]
noncomputable abbrev rtxE : Env := envL rtxR (fun _ => 0) r1 1
end Go.Proofs.YtjlmofhokbnloaaDoor

namespace Go.Proofs.YtjlmofhokbnloaaDoor
open Go.Se
set_option maxRecDepth 100000
theorem idx_sat (xs : List SV) (σ : List (Option SB)) : Sat Tryd.prog 139 xs σ (one cIdxB xs σ) :=
  idxB_sat Tryd.func139 (by kernel_rfl) (by kernel_rfl) (by kernel_rfl) (by kernel_rfl) xs σ
def cText : List SV → List (Option SB) → Out
  | [.int .i64 n], [] => some (.str (bytesOf (textL n)), [], [])
  | _, _ => none
def cWhole : List SV → List (Option SB) → Out
  | [.int .i64 n], [] => some (.str (bytesOf (wholeL n)), [], [])
  | _, _ => none
noncomputable def t3 : Know Tryd.prog := (((((t2).add 139 (one cIdxB) idx_sat).add 68 (one cText) (one_sat fun xs σ v σ' d h => by
    unfold cText at h; split at h <;> cases h; first | exact text_ok | exact text_ok _ | exact text_ok _ _ | exact text_ok _ _ _ | exact text_ok _ _ _ _ | exact text_ok _ _ _ _ _ | exact text_ok _ _ _ _ _ _ | exact text_ok _ _ _ _ _ _ _ | exact text_ok _ _ _ _ _ _ _ _ | exact text_ok _ _ _ _ _ _ _ _ _ | exact text_ok _ _ _ _ _ _ _ _ _ _ | exact text_ok _ _ _ _ _ _ _ _ _ _ _)).add 47 (one cWhole) (one_sat fun xs σ v σ' d h => by
    unfold cWhole at h; split at h <;> cases h; first | exact whole_ok | exact whole_ok _ | exact whole_ok _ _ | exact whole_ok _ _ _ | exact whole_ok _ _ _ _ | exact whole_ok _ _ _ _ _ | exact whole_ok _ _ _ _ _ _ | exact whole_ok _ _ _ _ _ _ _ | exact whole_ok _ _ _ _ _ _ _ _ | exact whole_ok _ _ _ _ _ _ _ _ _ | exact whole_ok _ _ _ _ _ _ _ _ _ _ | exact whole_ok _ _ _ _ _ _ _ _ _ _ _)).add 57 (one cAdd) (one_sat fun xs σ v σ' d h => by
    unfold cAdd at h; split at h <;> cases h; first | exact add_ok | exact add_ok _ | exact add_ok _ _ | exact add_ok _ _ _ | exact add_ok _ _ _ _ | exact add_ok _ _ _ _ _ | exact add_ok _ _ _ _ _ _ | exact add_ok _ _ _ _ _ _ _ | exact add_ok _ _ _ _ _ _ _ _ | exact add_ok _ _ _ _ _ _ _ _ _ | exact add_ok _ _ _ _ _ _ _ _ _ _ | exact add_ok _ _ _ _ _ _ _ _ _ _ _)).add 59 (one cNeg) (one_sat fun xs σ v σ' d h => by
    unfold cNeg at h; split at h <;> cases h; first | exact neg_ok | exact neg_ok _ | exact neg_ok _ _ | exact neg_ok _ _ _ | exact neg_ok _ _ _ _ | exact neg_ok _ _ _ _ _ | exact neg_ok _ _ _ _ _ _ | exact neg_ok _ _ _ _ _ _ _ | exact neg_ok _ _ _ _ _ _ _ _ | exact neg_ok _ _ _ _ _ _ _ _ _ | exact neg_ok _ _ _ _ _ _ _ _ _ _ | exact neg_ok _ _ _ _ _ _ _ _ _ _ _)
theorem awake_run (K : KC) : runU 40 t3 12 27 [] [] K = K (.bool true) [] [] := by kernel_rfl
theorem awake_ok : CallOK Tryd.prog 27 [] [] (.bool true) [] [] :=
  runU_ok 40 t3 12 fun _ _ K hK => by rw [awake_run]; exact hK
def cAwake : List SV → List (Option SB) → Out
  | [], [] => some (.bool true, [], [])
  | _, _ => none
noncomputable def t4 : Know Tryd.prog := ((t3).add 50 (one cWhole) (one_sat fun xs σ v σ' d h => by
    unfold cWhole at h; split at h <;> cases h; first | exact rwhole_ok | exact rwhole_ok _ | exact rwhole_ok _ _ | exact rwhole_ok _ _ _ | exact rwhole_ok _ _ _ _ | exact rwhole_ok _ _ _ _ _ | exact rwhole_ok _ _ _ _ _ _ | exact rwhole_ok _ _ _ _ _ _ _ | exact rwhole_ok _ _ _ _ _ _ _ _ | exact rwhole_ok _ _ _ _ _ _ _ _ _ | exact rwhole_ok _ _ _ _ _ _ _ _ _ _ | exact rwhole_ok _ _ _ _ _ _ _ _ _ _ _)).add 27 (one cAwake) (one_sat fun xs σ v σ' d h => by
    unfold cAwake at h; split at h <;> cases h; first | exact awake_ok | exact awake_ok _ | exact awake_ok _ _ | exact awake_ok _ _ _ | exact awake_ok _ _ _ _ | exact awake_ok _ _ _ _ _ | exact awake_ok _ _ _ _ _ _ | exact awake_ok _ _ _ _ _ _ _ | exact awake_ok _ _ _ _ _ _ _ _ | exact awake_ok _ _ _ _ _ _ _ _ _ | exact awake_ok _ _ _ _ _ _ _ _ _ _ | exact awake_ok _ _ _ _ _ _ _ _ _ _ _)
end Go.Proofs.YtjlmofhokbnloaaDoor

