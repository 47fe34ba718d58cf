import Derived.Test.YtjlmofhokbnloaaDoorMe
import Derived.Test.YtjlmofhokbnloaaDoorSeCtl
namespace Go.Proofs.YtjlmofhokbnloaaDoor
open Go.Se
set_option maxRecDepth 100000
noncomputable def a1 : Know Tryd.prog := (((c1).add 110 (one cEsc) escp_sat).add 45 cWs ws_sat).add 10 cPa pa_sat
theorem saw_nf (K : KC) : runU 10 a1 6 13 [] [] K =
  ((0 < 7 ∧ 7 ≤ 1099511627776) ∧ (∃ (e399 : List Int), ((7 = e399.length ∧ 7 = e399.length ∧ tG (listOf (⟨#[115, 99, 114, 105, 112, 116, 10]⟩ : ByteArray)) = tG e399) ∧ e399.length + 2 ≤ 1099511627776) ∧ (∃ (e397 : List Int), (((e399 ++ listOf (⟨#[100, 111]⟩ : ByteArray)).length = e397.length ∧ (e399 ++ listOf (⟨#[100, 111]⟩ : ByteArray)).length = e397.length ∧ tG (e399 ++ listOf (⟨#[100, 111]⟩ : ByteArray)) = tG e397) ∧ e397.length + 2 ≤ 1099511627776) ∧ (∃ (e395 : List Int), (((e397 ++ listOf ((⟨#[32]⟩ : ByteArray) ++ bytesOf (wholeL (↑3 : Int)))).length = e395.length ∧ (e397 ++ listOf ((⟨#[32]⟩ : ByteArray) ++ bytesOf (wholeL (↑3 : Int)))).length = e395.length ∧ tG (e397 ++ listOf ((⟨#[32]⟩ : ByteArray) ++ bytesOf (wholeL (↑3 : Int)))) = tG e395) ∧ e395.length + 2 ≤ 1099511627776) ∧ (∃ (e393 : List Int), (((e395 ++ listOf ((⟨#[32]⟩ : ByteArray) ++ bytesOf (wholeL 9))).length = e393.length ∧ (e395 ++ listOf ((⟨#[32]⟩ : ByteArray) ++ bytesOf (wholeL 9))).length = e393.length ∧ tG (e395 ++ listOf ((⟨#[32]⟩ : ByteArray) ++ bytesOf (wholeL 9))) = tG e393) ∧ e393.length + 2 ≤ 1099511627776) ∧ (∃ (e391 : List Int), (((e393 ++ listOf ((⟨#[32]⟩ : ByteArray) ++ bytesOf (wholeL 0))).length = e391.length ∧ (e393 ++ listOf ((⟨#[32]⟩ : ByteArray) ++ bytesOf (wholeL 0))).length = e391.length ∧ tG (e393 ++ listOf ((⟨#[32]⟩ : ByteArray) ++ bytesOf (wholeL 0))) = tG e391) ∧ e391.length + 2 ≤ 1099511627776) ∧ (∃ (e389 : List Int), (((e391 ++ listOf ((⟨#[32]⟩ : ByteArray) ++ bytesOf (wholeL 0))).length = e389.length ∧ (e391 ++ listOf ((⟨#[32]⟩ : ByteArray) ++ bytesOf (wholeL 0))).length = e389.length ∧ tG (e391 ++ listOf ((⟨#[32]⟩ : ByteArray) ++ bytesOf (wholeL 0))) = tG e389) ∧ e389.length + 2 ≤ 1099511627776) ∧ (∃ (e387 : List Int), (((e389 ++ listOf ((⟨#[32]⟩ : ByteArray) ++ bytesOf (wholeL 0))).length = e387.length ∧ (e389 ++ listOf ((⟨#[32]⟩ : ByteArray) ++ bytesOf (wholeL 0))).length = e387.length ∧ tG (e389 ++ listOf ((⟨#[32]⟩ : ByteArray) ++ bytesOf (wholeL 0))) = tG e387) ∧ e387.length + 2 ≤ 1099511627776) ∧ (∃ (e385 : List Int), (((e387 ++ listOf ((⟨#[32]⟩ : ByteArray) ++ bytesOf (wholeL 1))).length = e385.length ∧ (e387 ++ listOf ((⟨#[32]⟩ : ByteArray) ++ bytesOf (wholeL 1))).length = e385.length ∧ tG (e387 ++ listOf ((⟨#[32]⟩ : ByteArray) ++ bytesOf (wholeL 1))) = tG e385) ∧ e385.length + 5 ≤ 1099511627776) ∧ (∃ (e383 : List Int), (((e385 ++ listOf (⟨#[32, 97, 117, 116, 111]⟩ : ByteArray)).length = e383.length ∧ (e385 ++ listOf (⟨#[32, 97, 117, 116, 111]⟩ : ByteArray)).length = e383.length ∧ tG (e385 ++ listOf (⟨#[32, 97, 117, 116, 111]⟩ : ByteArray)) = tG e383) ∧ e383.length + 1 ≤ 1099511627776) ∧ (∃ (e381 : List Int), (((e383 ++ listOf (⟨#[10]⟩ : ByteArray)).length = e381.length ∧ (e383 ++ listOf (⟨#[10]⟩ : ByteArray)).length = e381.length ∧ tG (e383 ++ listOf (⟨#[10]⟩ : ByteArray)) = tG e381) ∧ e381.length + 4 ≤ 1099511627776) ∧ (Br (decide (0 < (e381 ++ listOf (⟨#[101, 110, 100, 10]⟩ : ByteArray)).length)) ((∀ (i : Nat), i < (↑(e381 ++ listOf (⟨#[101, 110, 100, 10]⟩ : ByteArray)).length : Int).toNat → isByte (tG (e381 ++ listOf (⟨#[101, 110, 100, 10]⟩ : ByteArray)) i) = true) ∧ (Br (decide (0 < (↑(e381 ++ listOf (⟨#[101, 110, 100, 10]⟩ : ByteArray)).length : Int)) && decide ((↑(e381 ++ listOf (⟨#[101, 110, 100, 10]⟩ : ByteArray)).length : Int) ≤ (↑(e381 ++ listOf (⟨#[101, 110, 100, 10]⟩ : ByteArray)).length : Int)) && decide ((↑(e381 ++ listOf (⟨#[101, 110, 100, 10]⟩ : ByteArray)).length : Int) < 9223372036854775808)) (Br (decide ((bytesOf (rowB (↑(e381 ++ listOf (⟨#[101, 110, 100, 10]⟩ : ByteArray)).length : Int).toNat (tG (e381 ++ listOf (⟨#[101, 110, 100, 10]⟩ : ByteArray))))).size ≤ 1048576)) (Br (bytesOf (rowB (↑(e381 ++ listOf (⟨#[101, 110, 100, 10]⟩ : ByteArray)).length : Int).toNat (tG (e381 ++ listOf (⟨#[101, 110, 100, 10]⟩ : ByteArray)))) == (⟨#[115, 99, 114, 105, 112, 116, 10, 100, 111, 32, 51, 32, 57, 32, 48, 32, 48, 32, 48, 32, 49, 32, 97, 117, 116, 111, 10, 101, 110, 100, 10]⟩ : ByteArray)) (Br (parseE (listOf (bytesOf (rowB (↑(e381 ++ listOf (⟨#[101, 110, 100, 10]⟩ : ByteArray)).length : Int).toNat (tG (e381 ++ listOf (⟨#[101, 110, 100, 10]⟩ : ByteArray)))))) == 0) (Br ((↑(parseL (listOf (bytesOf (rowB (↑(e381 ++ listOf (⟨#[101, 110, 100, 10]⟩ : ByteArray)).length : Int).toNat (tG (e381 ++ listOf (⟨#[101, 110, 100, 10]⟩ : ByteArray))))))).length : Int) == 3) (Br (true && decide (2 < (↑(parseL (listOf (bytesOf (rowB (↑(e381 ++ listOf (⟨#[101, 110, 100, 10]⟩ : ByteArray)).length : Int).toNat (tG (e381 ++ listOf (⟨#[101, 110, 100, 10]⟩ : ByteArray))))))).length : Int))) (Br (((parseL (listOf (bytesOf (rowB (↑(e381 ++ listOf (⟨#[101, 110, 100, 10]⟩ : ByteArray)).length : Int).toNat (tG (e381 ++ listOf (⟨#[101, 110, 100, 10]⟩ : ByteArray))))))).getD (Int.toNat 2) ct0).t == 9 && (((parseL (listOf (bytesOf (rowB (↑(e381 ++ listOf (⟨#[101, 110, 100, 10]⟩ : ByteArray)).length : Int).toNat (tG (e381 ++ listOf (⟨#[101, 110, 100, 10]⟩ : ByteArray))))))).getD (Int.toNat 2) ct0).b == 0 && (((parseL (listOf (bytesOf (rowB (↑(e381 ++ listOf (⟨#[101, 110, 100, 10]⟩ : ByteArray)).length : Int).toNat (tG (e381 ++ listOf (⟨#[101, 110, 100, 10]⟩ : ByteArray))))))).getD (Int.toNat 2) ct0).c == 0 && (((parseL (listOf (bytesOf (rowB (↑(e381 ++ listOf (⟨#[101, 110, 100, 10]⟩ : ByteArray)).length : Int).toNat (tG (e381 ++ listOf (⟨#[101, 110, 100, 10]⟩ : ByteArray))))))).getD (Int.toNat 2) ct0).s == 0 && (((parseL (listOf (bytesOf (rowB (↑(e381 ++ listOf (⟨#[101, 110, 100, 10]⟩ : ByteArray)).length : Int).toNat (tG (e381 ++ listOf (⟨#[101, 110, 100, 10]⟩ : ByteArray))))))).getD (Int.toNat 2) ct0).g == 1 && (((parseL (listOf (bytesOf (rowB (↑(e381 ++ listOf (⟨#[101, 110, 100, 10]⟩ : ByteArray)).length : Int).toNat (tG (e381 ++ listOf (⟨#[101, 110, 100, 10]⟩ : ByteArray))))))).getD (Int.toNat 2) ct0).a == true && ((parseL (listOf (bytesOf (rowB (↑(e381 ++ listOf (⟨#[101, 110, 100, 10]⟩ : ByteArray)).length : Int).toNat (tG (e381 ++ listOf (⟨#[101, 110, 100, 10]⟩ : ByteArray))))))).getD (Int.toNat 2) ct0).r == false)))))) (K (SV.bool true) [] []) (K (SV.bool false) [] [])) (False)) (K (SV.bool false) [] [])) (K (SV.bool false) [] [])) (K (SV.bool false) [] [])) (False)) (False))) (False))))))))))))) := by kernel_rfl
def awT : List Int := [115, 99, 114, 105, 112, 116, 10, 100, 111, 32, 51, 32, 57, 32, 48, 32, 48, 32, 48, 32, 49, 32, 97, 117, 116, 111, 10, 101, 110, 100, 10]
theorem saw_ok : CallOK Tryd.prog 13 [] [] (.bool true) [] [] := by
  refine runU_ok 10 a1 6 ?_
  intro _ _ K hK
  rw [saw_nf]
  refine ⟨⟨by decide, by decide⟩, [115, 99, 114, 105, 112, 116, 10], ⟨⟨rfl, rfl, rfl⟩, by decide⟩, ?_⟩
  refine ⟨_, ⟨⟨rfl, rfl, rfl⟩, by decide +kernel⟩, ?_⟩
  refine ⟨_, ⟨⟨rfl, rfl, rfl⟩, by decide +kernel⟩, ?_⟩
  refine ⟨_, ⟨⟨rfl, rfl, rfl⟩, by decide +kernel⟩, ?_⟩
  refine ⟨_, ⟨⟨rfl, rfl, rfl⟩, by decide +kernel⟩, ?_⟩
  refine ⟨_, ⟨⟨rfl, rfl, rfl⟩, by decide +kernel⟩, ?_⟩
  refine ⟨_, ⟨⟨rfl, rfl, rfl⟩, by decide +kernel⟩, ?_⟩
  refine ⟨_, ⟨⟨rfl, rfl, rfl⟩, by decide +kernel⟩, ?_⟩
  refine ⟨_, ⟨⟨rfl, rfl, rfl⟩, by decide +kernel⟩, ?_⟩
  refine ⟨_, ⟨⟨rfl, rfl, rfl⟩, by decide +kernel⟩, ?_⟩
  generalize hE : (_ ++ listOf (⟨#[101, 110, 100, 10]⟩ : ByteArray)) = L
  obtain rfl : L = awT := by rw [← hE]; decide +kernel
  refine Br.of (fun _ => ⟨fun i _ => rfl, ?_⟩) fun f => absurd f (by decide +kernel)
  refine Br.of (fun _ => Br.of (fun _ => Br.of (fun _ => Br.of (fun _ => Br.of (fun _ => Br.of (fun _ => Br.of (fun _ => hK) (fun f => absurd f (by decide +kernel))) (fun f => absurd f (by decide +kernel))) (fun f => absurd f (by decide +kernel))) (fun f => absurd f (by decide +kernel))) (fun f => absurd f (by decide +kernel))) (fun f => absurd f (by decide +kernel))) (fun f => absurd f (by decide +kernel))
end Go.Proofs.YtjlmofhokbnloaaDoor

namespace Go.Proofs.YtjlmofhokbnloaaDoor
open Go.Se
set_option maxRecDepth 100000
def csR : List (Nat × Keep) := [(0, ⟨[0, 1, 5], [], [], 0, []⟩)]
def csS (n : Nat) (X : Nat → Ct) (i : Int) : St := ⟨[(0, .ro n 7 (ctG X)), (1, .ro n 7 (ctG X)), (5, .int .i64 i)], [], 0, [], 26⟩
noncomputable abbrev csE : Env := envL csR (fun _ => 0) c9 1
noncomputable abbrev csF : Func := Tryd.f12
theorem cs_entry (n : Nat) (X : Nat → Ct) (K : KC) : runL csR (fun _ => 0) c9 2 12 [.ro n 7 (ctG X), .ro n 7 (ctG X)] [] K =
  (Br ((↑n : Int) != (↑n : Int)) (K (SV.bool false) [] []) (∃ q_, loopE csE (keepW csR 0) csF [1, 1, 0, 1, 0] 0 0 K q_ { tmps := [(0, SV.ro n 7 (ctG X)), (1, SV.ro n 7 (ctG X)), (5, SV.int .i64 0)], store := [], nxt := 0, dirty := [], nt := 26 })) := by kernel_rfl
theorem cs_round (n : Nat) (X : Nat → Ct) (i : Nat) (K : Ex → St → Prop) : roundE csE (keepW csR 0) csF [1, 1, 0, 1, 0] 0 K (csS n X i) =
  (Br (decide ((↑i : Int) < (↑n : Int))) (Br (decide (0 ≤ (↑i : Int)) && decide ((↑i : Int) < (↑n : Int))) (Br (decide (0 ≤ (↑i : Int)) && decide ((↑i : Int) < (↑n : Int))) (Br (!(eqCt (X (↑i : Int).toNat) (X (↑i : Int).toNat))) (K Ex.ret { tmps := [(0, SV.ro n 7 (ctG X)), (1, SV.ro n 7 (ctG X)), (5, SV.int .i64 (↑i : Int))], store := [], nxt := 0, dirty := [], nt := 26 }) (K Ex.normal { tmps := [(0, SV.ro n 7 (ctG X)), (1, SV.ro n 7 (ctG X)), (5, SV.int .i64 (IntKind.i64.wrap ((↑i : Int) + 1)))], store := [], nxt := 0, dirty := [], nt := 26 })) (False)) (False)) (K (Ex.exit 0) { tmps := [(0, SV.ro n 7 (ctG X)), (1, SV.ro n 7 (ctG X)), (5, SV.int .i64 (↑i : Int))], store := [], nxt := 0, dirty := [], nt := 26 })) := by kernel_rfl
theorem cs_after (n : Nat) (X : Nat → Ct) (i : Nat) (K : KC) : afterE csE (keepW csR 0) csF [1, 1, 0, 1, 0] 0 K (.exit 0) (csS n X i) =
  (K (SV.bool true) [] []) := by kernel_rfl
theorem samec_ok (n : Nat) (X : Nat → Ct) : CallOK Tryd.prog 12 [.ro n 7 (ctG X), .ro n 7 (ctG X)] [] (.bool true) [] [] :=
  runL_ok csR (fun _ => 0) c9 2 (fun _ h => nomatch h) fun ⟨⟨hl, _⟩, _⟩ _ K hK => by
    have hK := hK [] fun _ h => nomatch h
    rw [cs_entry]
    refine Br.of (fun c => by simp at c) fun _ => ⟨n + 1, loop_up (fun i : Nat => csS n X i) n (fun _ => True) (fun i hi _ Y hY => ?_) (fun _ Y => ?_) trivial⟩
    · rw [cs_round, wi64_succ hi hl]
      refine Br.of (fun _ => Br.of (fun _ => Br.of (fun _ => Br.of (fun c => ?_) fun _ => hY trivial) fun f => in_f hi f) fun f => in_f hi f) fun f => lt_f hi f
      rw [eqCt_self] at c; cases c
    · rw [cs_round]
      refine Br.of (fun c => lt_t c) fun _ => ?_
      show afterE csE (keepW csR 0) csF [1, 1, 0, 1, 0] 0 K (.exit 0) (csS n X n)
      rw [cs_after]; exact hK
end Go.Proofs.YtjlmofhokbnloaaDoor

namespace Go.Proofs.YtjlmofhokbnloaaDoor
open Go.Se
set_option maxRecDepth 100000
def liR : List (Nat × Keep) := [(0, ⟨[0, 2, 3, 4], [], [], 0, []⟩)]
noncomputable abbrev liE : Env := envL liR (fun _ => 0) c9 1
noncomputable abbrev liF : Func := Tryd.f9
theorem li_entry (s : ByteArray) (K : KC) : runL liR (fun _ => 0) c9 2 9 [.str s] [] K =
  (∃ q_, loopE liE (keepW liR 0) liF [1, 1, 0, 1, 0] 0 0 K q_ { tmps := [(0, SV.str s), (2, SV.bool false), (3, SV.int .i64 0), (4, SV.int .i64 0)], store := [], nxt := 0, dirty := [], nt := 28 }) := by kernel_rfl
def liS (s : ByteArray) (c i : Int) : St := ⟨[(0, .str s), (2, .bool false), (3, .int .i64 c), (4, .int .i64 i)], [], 0, [], 28⟩
theorem li_round (s : ByteArray) (c : Int) (i : Nat) (K : Ex → St → Prop) : roundE liE (keepW liR 0) liF [1, 1, 0, 1, 0] 0 K (liS s c i) =
  (Br (decide ((↑i : Int) < (↑s.size : Int))) (Br (decide (0 ≤ (↑i : Int)) && decide ((↑i : Int) < (↑s.size : Int))) (Br (decide ((↑(s.data.getD (↑i : Int).toNat 0).toNat : Int) < 48)) (K Ex.normal { tmps := [(0, SV.str s), (2, SV.bool false), (3, SV.int .i64 0), (4, SV.int .i64 (IntKind.i64.wrap ((↑i : Int) + 1)))], store := [], nxt := 0, dirty := [], nt := 28 }) (Br (decide (0 ≤ (↑i : Int)) && decide ((↑i : Int) < (↑s.size : Int))) (Br (decide ((↑(s.data.getD (↑i : Int).toNat 0).toNat : Int) > 57)) (K Ex.normal { tmps := [(0, SV.str s), (2, SV.bool false), (3, SV.int .i64 0), (4, SV.int .i64 (IntKind.i64.wrap ((↑i : Int) + 1)))], store := [], nxt := 0, dirty := [], nt := 28 }) (Br (decide (IntKind.i64.wrap (c + 1) > 3)) (K Ex.ret { tmps := [(0, SV.str s), (2, SV.bool false), (3, SV.int .i64 (IntKind.i64.wrap (c + 1))), (4, SV.int .i64 (↑i : Int))], store := [], nxt := 0, dirty := [], nt := 28 }) (K Ex.normal { tmps := [(0, SV.str s), (2, SV.bool false), (3, SV.int .i64 (IntKind.i64.wrap (c + 1))), (4, SV.int .i64 (IntKind.i64.wrap ((↑i : Int) + 1)))], store := [], nxt := 0, dirty := [], nt := 28 }))) (False))) (False)) (K (Ex.exit 0) { tmps := [(0, SV.str s), (2, SV.bool false), (3, SV.int .i64 c), (4, SV.int .i64 (↑i : Int))], store := [], nxt := 0, dirty := [], nt := 28 })) := by kernel_rfl
theorem li_ret (s : ByteArray) (c : Int) (i : Nat) (K : KC) : afterE liE (keepW liR 0) liF [1, 1, 0, 1, 0] 0 K .ret (liS s c i) =
  (K (SV.bool false) [] []) := by kernel_rfl
theorem li_after (s : ByteArray) (c : Int) (i : Nat) (K : KC) : afterE liE (keepW liR 0) liF [1, 1, 0, 1, 0] 0 K (.exit 0) (liS s c i) =
  (K (SV.bool (decide ((↑s.size : Int) ≤ 400))) [] []) := by kernel_rfl
theorem li_law (s : ByteArray) (hs : s.size < 9223372036854775808) (K : KC) (hK : ∀ v, (v = true → s.size ≤ 400) → K (.bool v) [] []) : runL liR (fun _ => 0) c9 2 9 [.str s] [] K := by
  rw [li_entry]
  refine ⟨s.size + 1, loop_m (fun a : Int × Nat => liS s a.1 a.2) (fun a => s.size - a.2) (fun a => a.2 ≤ s.size) ?_ (s.size + 1) (0, 0) (Nat.zero_le _) (by show s.size - 0 < _; omega)⟩
  rintro ⟨c, i⟩ h1 Y hY
  simp only at h1 hY ⊢
  rw [li_round]
  refine Br.of (fun d => ?_) fun d => ?_
  · have d : i < s.size := by have := of_decide_eq_true d; omega
    rw [wi64_succ d hs]
    have next : ∀ c' : Int, Y (liS s c' (i + 1 : Nat)) := fun c' => hY (c', i + 1) d (by show s.size - (i + 1) < s.size - i; omega)
    refine Br.of (fun _ => Br.of (fun _ => next _) fun _ => Br.of (fun _ => Br.of (fun _ => next _) fun _ => Br.of (fun _ => ?_) fun _ => next _) fun f => in_f d f) fun f => in_f d f
    show afterE liE (keepW liR 0) liF [1, 1, 0, 1, 0] 0 K .ret (liS s (IntKind.i64.wrap (c + 1)) i)
    rw [li_ret]
    exact hK _ fun h => nomatch h
  · show afterE liE (keepW liR 0) liF [1, 1, 0, 1, 0] 0 K (.exit 0) (liS s c i)
    rw [li_after]
    exact hK _ fun h => by have := of_decide_eq_true h; omega
end Go.Proofs.YtjlmofhokbnloaaDoor

namespace Go.Proofs.YtjlmofhokbnloaaDoor
open Go.Se
set_option maxRecDepth 100000
def cSm : List SV → List (Option SB) → KC → Prop
  | [.ro n 7 g, .ro m 7 h], [], K => ∃ X : Nat → Ct, (m = n ∧ (∀ i, i < n → g i = ctC (X i)) ∧ ∀ i, i < n → h i = ctC (X i)) ∧ K (.bool true) [] []
  | _, _, _ => False
theorem sm_sat (xs : List SV) (σ : List (Option SB)) : Sat Tryd.prog 12 xs σ (cSm xs σ) := by
  intro K hK
  unfold cSm at hK
  split at hK
  case h_2 => exact hK.elim
  obtain ⟨X, ⟨rfl, h1, h2⟩, hK⟩ := hK
  rename_i g m h'
  refine ⟨_, _, _, hK, fun ρ T w vals h b c d => samec_ok m X ρ T w vals ?_ b c d⟩
  obtain ⟨x, r, e, a1, y, r2, e2, a2, a3⟩ := h
  exact ⟨x, r, e, ro_more h1 a1, y, r2, e2, ro_more h2 a2, a3⟩
def cLi : List SV → List (Option SB) → KC → Prop
  | [.str s], [], K => ∀ v, (v = true → s.size ≤ 400) → K (.bool v) [] []
  | _, _, _ => False
theorem li_sat (xs : List SV) (σ : List (Option SB)) : Sat Tryd.prog 9 xs σ (cLi xs σ) := by
  refine sat_of_ok (fun K hK => ?_) fun hx hσ K hK => ?_
  · unfold cLi at hK
    split at hK
    case h_2 => exact hK.elim
    exact ⟨_, _, _, hK false fun h => nomatch h⟩
  · unfold cLi at hK
    split at hK
    case h_2 => exact hK.elim
    rename_i s
    exact calls_sat (env := tab.env c9 (fun _ => 0) (fun _ => false)) ⟨tab.htt, c9.ok⟩ tab.mixed (fun n => keepW_weaker n liR) tab.hft 2 _ _ _ K (li_law s hx.1 K hK)
def cSaw : List SV → List (Option SB) → Out
  | [], [] => some (.bool true, [], [])
  | _, _ => none
noncomputable def c10 : Know Tryd.prog := (((c9).add 12 cSm sm_sat).add 9 cLi li_sat).add 13 (one cSaw) (one_sat fun xs σ v σ' d h => by
    unfold cSaw at h; split at h <;> cases h; first | exact saw_ok | exact saw_ok _ | exact saw_ok _ _ | exact saw_ok _ _ _ | exact saw_ok _ _ _ _ | exact saw_ok _ _ _ _ _ | exact saw_ok _ _ _ _ _ _ | exact saw_ok _ _ _ _ _ _ _ | exact saw_ok _ _ _ _ _ _ _ _ | exact saw_ok _ _ _ _ _ _ _ _ _ | exact saw_ok _ _ _ _ _ _ _ _ _ _ | exact saw_ok _ _ _ _ _ _ _ _ _ _ _)
theorem may_nf (s : ByteArray) (K : KC) : run c10 2 5 [.str s] [] K =
  (∀ (v400 : Bool), ∀ (_ : v400 = true → s.size ≤ 400), Br (!v400) (K (SV.bool true) [] []) (Br (decide (s.size ≤ 1048576)) (Br (parseE (listOf s) != 0) (Br (decide (parseAt (listOf s) ≥ 0)) (Br ((↑(parseL (listOf s)).length : Int) == 0) (K (SV.bool true) [] []) (K (SV.bool false) [] [])) (K (SV.bool false) [] [])) (∃ (e395 : Nat → Ct), (listG ctC ct0 (parseL (listOf s)) = ctG e395) ∧ (Br (decide ((bytesOf (printR e395 (parseL (listOf s)).length)).size ≤ 1048576)) (Br (printE e395 (parseL (listOf s)).length == 0) (Br (parseE (listOf (bytesOf (printR e395 (parseL (listOf s)).length))) == 0) (∃ (e390 : Nat → Ct), ((parseL (listOf (bytesOf (printR e395 (parseL (listOf s)).length)))).length = (parseL (listOf s)).length ∧ (∀ (i : Nat), i < (parseL (listOf s)).length → listG ctC ct0 (parseL (listOf s)) i = ctC (e390 i)) ∧ ∀ (i : Nat), i < (parseL (listOf s)).length → listG ctC ct0 (parseL (listOf (bytesOf (printR e395 (parseL (listOf s)).length)))) i = ctC (e390 i)) ∧ (K (SV.bool true) [] [])) (K (SV.bool false) [] [])) (K (SV.bool false) [] [])) (False)))) (False))) := by kernel_rfl
theorem ctsX_at {X : Nat → Ct} {n i : Nat} (h : i < n) : listG ctC ct0 (ctsX X 0 n) i = ctC (X i) := by
  rw [listG_at (show i < (ctsX X 0 n).length by unfold ctsX; simpa using h)]
  unfold ctsX
  rw [List.getElem_map, List.getElem_range']
  simp
theorem ctsX_length {X : Nat → Ct} {p n : Nat} : (ctsX X p n).length = n := by unfold ctsX; simp
theorem may_run (s : ByteArray) (K : KC) (hK : K (.bool true) [] []) : run c10 2 5 [.str s] [] K := by
  rw [may_nf]
  intro v hv
  refine Br.of (fun _ => hK) fun hn => ?_
  have hs : s.size ≤ 400 := hv (by simpa using hn)
  obtain ⟨f1, f2, f3, f4, f5⟩ := parse_facts (listOf s)
  refine Br.of (fun _ => Br.of (fun e => ?_) fun e => ?_) fun f => absurd (of_decide_eq_false f) (by omega)
  · have e : parseE (listOf s) ≠ 0 := by simpa using e
    rw [f5 e]
    exact Br.of (fun _ => Br.of (fun _ => hK) fun f => absurd f (by decide)) fun f => absurd (of_decide_eq_false f) (by omega)
  · generalize hL : parseL (listOf s) = L at *
    have hX : ∀ i, i < L.length → okP (L.getD i ct0) := fun i hi => f1 _ (getD_mm hi)
    have hl := printT_lines L ct0
    obtain ⟨g1, g2⟩ := print_good (X := fun i => L.getD i ct0) f2 hX
    obtain ⟨p1, p2, p3⟩ := parse_back (X := fun i => L.getD i ct0) f2 hX
    have h4 := list_length s
    refine ⟨fun i => L.getD i ct0, rfl, ?_⟩
    rw [g1, g2, list_bytes (printT_inByte _ _), bytes_size, p1, p3]
    exact Br.of (fun _ => Br.of (fun _ => Br.of (fun _ => ⟨fun i => L.getD i ct0, ⟨ctsX_length, fun i _ => rfl, fun i hi => ctsX_at hi⟩, hK⟩) fun f => absurd f (by decide)) fun f => absurd f (by decide)) fun f => absurd (of_decide_eq_false f) (by omega)
theorem may_ok (s : ByteArray) : CallOK Tryd.prog 5 [.str s] [] (.bool true) [] [] :=
  run_ok c10 2 fun _ _ K hK => may_run s K hK
end Go.Proofs.YtjlmofhokbnloaaDoor

