import Derived.Test.YtjlmofhokbnloaaDoorRoot
import Derived.Test.YtjlmofhokbnloaaDoorRe
import Derived.Test.YtjlmofhokbnloaaDoorSeStr
namespace Go.Proofs.YtjlmofhokbnloaaDoor
open Go.Se
set_option maxRecDepth 100000
abbrev digId : FuncId := 86
def digR : List (Nat × Keep) := [(0, ⟨[0, 1, 6, 5, 4], [0], [0], 1, []⟩)]
def digS (u least : Int) (j : Nat) (dl : List SV) : St :=
  ⟨[(0, .int .u64 u), (1, .int .i64 least), (6, .int .i64 (20 - (j : Int))), (5, .ptr 0 0), (4, .str ⟨#[]⟩)], [(0, some (.cells 155 (List.replicate (20 - j) (.int .u8 0) ++ dl)))], 1, [0], 28⟩
abbrev digPath : List Nat := [1, 1, 1, 0, 0]
noncomputable abbrev digE : Env := envL digR (fun _ => 0) k0 1
theorem dig_entry (K : KC) (u least : Int) : runL digR (fun _ => 0) k0 2 digId [.int .u64 u, .int .i64 least] [] K =
    ∃ n, loopE digE (keepW digR 0) Tryd.f86 digPath 0 0 K n (digS u least 0 []) := by kernel_rfl
def dlOf (l : List Int) : List SV := l.map fun n => .int .u8 n
def nextD (K : Ex → St → Prop) (u least : Int) (j : Nat) (l : List Int) : Prop :=
  K .normal (digS (IntKind.u64.wrap (u.tdiv 10)) least (j + 1) (dlOf (IntKind.u8.wrap (IntKind.u64.wrap (48 + u.tmod 10)) :: l)))
theorem dig_round (K : Ex → St → Prop) (u least : Int) : ∀ (j : Nat), j < 20 → ∀ l : List Int, l.length = j → roundE digE (keepW digR 0) Tryd.f86 digPath 0 K (digS u least j (dlOf l)) =
    Br (decide (u > 0)) (nextD K u least j l) (Br (decide ((j : Int) < least)) (nextD K u least j l) (K (.exit 0) (digS u least j (dlOf l))))
  | 0, _, [], _ => by kernel_rfl
  | 1, _, [a0], _ => by kernel_rfl
  | 2, _, [a0, a1], _ => by kernel_rfl
  | 3, _, [a0, a1, a2], _ => by kernel_rfl
  | 4, _, [a0, a1, a2, a3], _ => by kernel_rfl
  | 5, _, [a0, a1, a2, a3, a4], _ => by kernel_rfl
  | 6, _, [a0, a1, a2, a3, a4, a5], _ => by kernel_rfl
  | 7, _, [a0, a1, a2, a3, a4, a5, a6], _ => by kernel_rfl
  | 8, _, [a0, a1, a2, a3, a4, a5, a6, a7], _ => by kernel_rfl
  | 9, _, [a0, a1, a2, a3, a4, a5, a6, a7, a8], _ => by kernel_rfl
  | 10, _, [a0, a1, a2, a3, a4, a5, a6, a7, a8, a9], _ => by kernel_rfl
  | 11, _, [a0, a1, a2, a3, a4, a5, a6, a7, a8, a9, a10], _ => by kernel_rfl
  | 12, _, [a0, a1, a2, a3, a4, a5, a6, a7, a8, a9, a10, a11], _ => by kernel_rfl
  | 13, _, [a0, a1, a2, a3, a4, a5, a6, a7, a8, a9, a10, a11, a12], _ => by kernel_rfl
  | 14, _, [a0, a1, a2, a3, a4, a5, a6, a7, a8, a9, a10, a11, a12, a13], _ => by kernel_rfl
  | 15, _, [a0, a1, a2, a3, a4, a5, a6, a7, a8, a9, a10, a11, a12, a13, a14], _ => by kernel_rfl
  | 16, _, [a0, a1, a2, a3, a4, a5, a6, a7, a8, a9, a10, a11, a12, a13, a14, a15], _ => by kernel_rfl
  | 17, _, [a0, a1, a2, a3, a4, a5, a6, a7, a8, a9, a10, a11, a12, a13, a14, a15, a16], _ => by kernel_rfl
  | 18, _, [a0, a1, a2, a3, a4, a5, a6, a7, a8, a9, a10, a11, a12, a13, a14, a15, a16, a17], _ => by kernel_rfl
  | 19, _, [a0, a1, a2, a3, a4, a5, a6, a7, a8, a9, a10, a11, a12, a13, a14, a15, a16, a17, a18], _ => by kernel_rfl
  | j + 20, h, _, _ => absurd h (by omega)
theorem dig_round20 (K : Ex → St → Prop) (u least : Int) : ∀ l : List Int, l.length = 20 → roundE digE (keepW digR 0) Tryd.f86 digPath 0 K (digS u least 20 (dlOf l)) =
    Br (decide (u > 0)) False (Br (decide ((20 : Int) < least)) False (K (.exit 0) (digS u least 20 (dlOf l))))
  | [a0, a1, a2, a3, a4, a5, a6, a7, a8, a9, a10, a11, a12, a13, a14, a15, a16, a17, a18, a19], _ => by kernel_rfl
theorem dig_after (K : KC) (u least : Int) : ∀ (j : Nat), j ≤ 20 → ∀ l : List Int, l.length = j → afterE digE (keepW digR 0) Tryd.f86 digPath 0 K (.exit 0) (digS u least j (dlOf l)) = K (.str (bytesOf l)) [] []
  | 0, _, [], _ => by kernel_rfl
  | 1, _, [a0], _ => by kernel_rfl
  | 2, _, [a0, a1], _ => by kernel_rfl
  | 3, _, [a0, a1, a2], _ => by kernel_rfl
  | 4, _, [a0, a1, a2, a3], _ => by kernel_rfl
  | 5, _, [a0, a1, a2, a3, a4], _ => by kernel_rfl
  | 6, _, [a0, a1, a2, a3, a4, a5], _ => by kernel_rfl
  | 7, _, [a0, a1, a2, a3, a4, a5, a6], _ => by kernel_rfl
  | 8, _, [a0, a1, a2, a3, a4, a5, a6, a7], _ => by kernel_rfl
  | 9, _, [a0, a1, a2, a3, a4, a5, a6, a7, a8], _ => by kernel_rfl
  | 10, _, [a0, a1, a2, a3, a4, a5, a6, a7, a8, a9], _ => by kernel_rfl
  | 11, _, [a0, a1, a2, a3, a4, a5, a6, a7, a8, a9, a10], _ => by kernel_rfl
  | 12, _, [a0, a1, a2, a3, a4, a5, a6, a7, a8, a9, a10, a11], _ => by kernel_rfl
  | 13, _, [a0, a1, a2, a3, a4, a5, a6, a7, a8, a9, a10, a11, a12], _ => by kernel_rfl
  | 14, _, [a0, a1, a2, a3, a4, a5, a6, a7, a8, a9, a10, a11, a12, a13], _ => by kernel_rfl
  | 15, _, [a0, a1, a2, a3, a4, a5, a6, a7, a8, a9, a10, a11, a12, a13, a14], _ => by kernel_rfl
  | 16, _, [a0, a1, a2, a3, a4, a5, a6, a7, a8, a9, a10, a11, a12, a13, a14, a15], _ => by kernel_rfl
  | 17, _, [a0, a1, a2, a3, a4, a5, a6, a7, a8, a9, a10, a11, a12, a13, a14, a15, a16], _ => by kernel_rfl
  | 18, _, [a0, a1, a2, a3, a4, a5, a6, a7, a8, a9, a10, a11, a12, a13, a14, a15, a16, a17], _ => by kernel_rfl
  | 19, _, [a0, a1, a2, a3, a4, a5, a6, a7, a8, a9, a10, a11, a12, a13, a14, a15, a16, a17, a18], _ => by kernel_rfl
  | 20, _, [a0, a1, a2, a3, a4, a5, a6, a7, a8, a9, a10, a11, a12, a13, a14, a15, a16, a17, a18, a19], _ => by kernel_rfl
  | j + 21, h, _, _ => absurd h (by omega)
end Go.Proofs.YtjlmofhokbnloaaDoor

namespace Go.Proofs.YtjlmofhokbnloaaDoor
open Go.Se
set_option maxRecDepth 100000
theorem dig_loop (K : KC) (least : Int) (hl : least ≤ 20) : ∀ (f : Nat) (u : Int) (j : Nat) (l : List Int), j + f = 20 → l.length = j → 0 ≤ u → u < 10 ^ f → u < 18446744073709551616 → K (.str (bytesOf (digA f u least j l))) [] [] →
    loopE digE (keepW digR 0) Tryd.f86 digPath 0 0 K (f + 1) (digS u least j (dlOf l))
  | 0, u, j, l, hj, hlen, h0, h1, h2, hK => by
    have : j = 20 := by omega
    subst this
    have hu : u = 0 := by simp at h1; omega
    subst hu
    rw [loopE_succ, dig_round20 _ _ _ l hlen]
    refine Br.of (fun c => absurd (of_decide_eq_true c) (by decide)) fun _ => Br.of (fun c => ?_) fun _ => ?_
    · have := of_decide_eq_true c; omega
    · show afterE _ _ _ _ _ _ _ _
      rw [dig_after _ _ _ 20 (Nat.le_refl _) l hlen]
      exact hK
  | f + 1, u, j, l, hj, hlen, h0, h1, h2, hK => by
    rw [loopE_succ, dig_round _ _ _ j (by omega) l hlen]
    have hp : (10 : Int) ^ (f + 1) = 10 ^ f * 10 := Int.pow_succ 10 f
    rw [digA_succ] at hK
    have next : (decide (u > 0) || decide ((j : Int) < least)) = true → nextD (fun e s => match e with
        | .normal => loopE digE (keepW digR 0) Tryd.f86 digPath 0 0 K (f + 1) s
        | e => afterE digE (keepW digR 0) Tryd.f86 digPath 0 K e s) u least j l := fun e => by
      rw [e] at hK
      show loopE _ _ _ _ _ _ _ _ _
      have hd : IntKind.u8.wrap (IntKind.u64.wrap (48 + u.tmod 10)) = 48 + u % 10 := by
        rw [Int.tmod_eq_emod_of_nonneg h0, wu64, wu8]; omega
      rw [hd, Int.tdiv_eq_ediv_of_nonneg h0, wu64, show u / 10 % 18446744073709551616 = u / 10 by omega]
      exact dig_loop K least hl f (u / 10) (j + 1) _ (by omega) (by simp [hlen]) (by omega) (by omega) (by omega) (by push_cast; exact hK)
    refine Br.of (fun c => next ?_) fun c => Br.of (fun d => next ?_) fun d => ?_
    · rw [c]; rfl
    · rw [c, d]; rfl
    · rw [c, d] at hK
      show afterE _ _ _ _ _ _ _ _
      rw [dig_after _ _ _ j (by omega) l hlen]
      exact hK
theorem digits_ok (u least : Int) (hx : decide (least ≤ 20) = true) : CallOK Tryd.prog digId [.int .u64 u, .int .i64 least] [] (.str (bytesOf (digL10 u least))) [] [] :=
  runL_ok digR (fun _ => 0) k0 2 (fun _ h => nomatch h) fun ⟨hu, _⟩ _ K hK => by
    have hu' : 0 ≤ u ∧ u ≤ 18446744073709551615 := hu
    rw [dig_entry]
    exact ⟨21, dig_loop K least (of_decide_eq_true hx) 20 u 0 [] rfl rfl hu'.1 (by omega) (by omega) (hK [] fun _ h => nomatch h)⟩

abbrev rdgId : FuncId := 88
def rdgR : List (Nat × Keep) := [(0, ⟨[0, 3, 2], [], [], 0, []⟩)]
def rdgS (u : Int) (s : ByteArray) : St := ⟨[(0, .int .u64 u), (3, .str s), (2, .str ⟨#[]⟩)], [], 0, [], 21⟩
abbrev rdgPath : List Nat := [1, 1, 0, 0]
noncomputable abbrev rdgE : Env := envL rdgR (fun _ => 0) k0 1
theorem rdg_entry (K : KC) (u : Int) : runL rdgR (fun _ => 0) k0 2 rdgId [.int .u64 u] [] K = ∃ n, loopE rdgE (keepW rdgR 0) Tryd.f88 rdgPath 0 0 K n (rdgS u ⟨#[]⟩) := by kernel_rfl
def nextR (K : Ex → St → Prop) (u : Int) (s : ByteArray) : Prop :=
  (fun d => If (decide ((bytesOf [d]).size + s.size < 9223372036854775808)) (K .normal (rdgS (IntKind.u64.wrap (u.tdiv 10)) (bytesOf [d] ++ s)))) (IntKind.u8.wrap (IntKind.u64.wrap (48 + u.tmod 10)))
theorem rdg_round (K : Ex → St → Prop) (u : Int) (s : ByteArray) : roundE rdgE (keepW rdgR 0) Tryd.f88 rdgPath 0 K (rdgS u s) =
    Br (decide (u > 0)) (nextR K u s) (Br (s == ⟨#[]⟩) (nextR K u s) (K (.exit 0) (rdgS u s))) := by kernel_rfl
theorem rdg_after (K : KC) (u : Int) (s : ByteArray) : afterE rdgE (keepW rdgR 0) Tryd.f88 rdgPath 0 K (.exit 0) (rdgS u s) = K (.str s) [] [] := by kernel_rfl
theorem rdg_loop (K : KC) : ∀ (f : Nat) (u : Int) (j : Nat) (l : List Int), j + f = 20 → l.length = j → 0 ≤ u → u < 10 ^ f → u < 18446744073709551616 → K (.str (bytesOf (digA f u 1 j l))) [] [] →
    loopE rdgE (keepW rdgR 0) Tryd.f88 rdgPath 0 0 K (f + 1) (rdgS u (bytesOf l))
  | 0, u, j, l, hj, hlen, h0, h1, h2, hK => by
    have hu : u = 0 := by simp at h1; omega
    subst hu
    rw [loopE_succ, rdg_round, bytes_nil]
    refine Br.of (fun c => absurd (of_decide_eq_true c) (by decide)) fun _ => Br.of (fun c => ?_) fun _ => ?_
    · have := of_decide_eq_true c; omega
    · show afterE _ _ _ _ _ _ _ _
      rw [rdg_after]
      exact hK
  | f + 1, u, j, l, hj, hlen, h0, h1, h2, hK => by
    rw [loopE_succ, rdg_round, bytes_nil]
    have hp : (10 : Int) ^ (f + 1) = 10 ^ f * 10 := Int.pow_succ 10 f
    rw [digA_succ] at hK
    have next : (decide (u > 0) || decide ((j : Int) < 1)) = true → nextR (fun e s => match e with
        | .normal => loopE rdgE (keepW rdgR 0) Tryd.f88 rdgPath 0 0 K (f + 1) s
        | e => afterE rdgE (keepW rdgR 0) Tryd.f88 rdgPath 0 K e s) u (bytesOf l) := fun e => by
      rw [e] at hK
      unfold nextR
      have hd : IntKind.u8.wrap (IntKind.u64.wrap (48 + u.tmod 10)) = 48 + u % 10 := by
        rw [Int.tmod_eq_emod_of_nonneg h0, wu64, wu8]; omega
      rw [hd, Int.tdiv_eq_ediv_of_nonneg h0, wu64, show u / 10 % 18446744073709551616 = u / 10 by omega]
      refine If.mk (decide_eq_true (by rw [bytes_size, bytes_size]; simp; omega)) ?_
      rw [bytes_append]
      show loopE _ _ _ _ _ _ _ _ _
      exact rdg_loop K f (u / 10) (j + 1) _ (by omega) (by simp [hlen]) (by omega) (by omega) (by omega) (by push_cast; exact hK)
    refine Br.of (fun c => next ?_) fun c => Br.of (fun d => next ?_) fun d => ?_
    · rw [c]; rfl
    · have := of_decide_eq_true d
      rw [c, decide_eq_true (show (j : Int) < 1 by omega)]; rfl
    · have := of_decide_eq_false d
      rw [c, decide_eq_false (show ¬ (j : Int) < 1 by omega)] at hK
      show afterE _ _ _ _ _ _ _ _
      rw [rdg_after]
      exact hK
theorem rdigits_ok (u : Int) : CallOK Tryd.prog rdgId [.int .u64 u] [] (.str (bytesOf (digL10 u 1))) [] [] :=
  runL_ok rdgR (fun _ => 0) k0 2 (fun _ h => nomatch h) fun ⟨hu, _⟩ _ K hK => by
    have hu' : 0 ≤ u ∧ u ≤ 18446744073709551615 := hu
    rw [rdg_entry]
    exact ⟨21, rdg_loop K 20 u 0 [] rfl rfl hu'.1 (by omega) (by omega) (hK [] fun _ h => nomatch h)⟩
end Go.Proofs.YtjlmofhokbnloaaDoor

