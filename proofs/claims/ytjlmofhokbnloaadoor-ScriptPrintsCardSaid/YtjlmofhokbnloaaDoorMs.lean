import Derived.Test.YtjlmofhokbnloaaDoorMp
namespace Go.Proofs.YtjlmofhokbnloaaDoor
open Go.Se
set_option maxRecDepth 100000
def qtR : List (Nat × Keep) := [(0, ⟨[0, 2, 3, 4], [], [], 0, []⟩), (2, ⟨[0, 2, 3, 5, 6, 7, 8], [], [0, 1, 2, 3, 4, 5], 2, []⟩)]
def qtU : Nat → Nat := fun b => bif Nat.beq b 4 then 8 else 0
noncomputable abbrev qtE : Env := envL qtR qtU c15 2
noncomputable abbrev qtF : Func := Tryd.f15
abbrev qtP : List Nat := [1, 1, 0, 1, 0]
abbrev qtQ : List Nat := [1, 1, 1, 1, 1, 1, 0, 1, 0]
def qtS (n : Nat) (X : Nat → Ct) (e i : Int) : St := ⟨[(0, .ro n 7 (ctG X)), (2, .str ⟨#[]⟩), (3, .int .i64 e), (4, .int .i64 i)], [], 0, [], 86⟩
def qtT (n : Nat) (X : Nat → Ct) (s : ByteArray) (a : Int) (L : List Int) (i : Int) : St := ⟨[(0, .ro n 7 (ctG X)), (2, .str ⟨#[]⟩), (3, .int .i64 0), (5, .str s), (6, .int .i64 a), (7, .ro L.length 1 (listG niC 0 L)), (8, .int .i64 i)], [], 2, [0, 1, 2, 3, 4, 5], 86⟩
theorem qt_entry (n : Nat) (X : Nat → Ct) (K : KC) : runL qtR qtU c15 3 15 [.ro n 7 (ctG X)] [] K =
  (Br (decide ((↑n : Int) > 16777216)) (K (SV.tup [SV.str (⟨#[]⟩ : ByteArray), SV.int .i64 42]) [] []) (∃ q_, loopE qtE (keepW qtR 0) qtF qtP 0 0 K q_ { tmps := [(0, SV.ro n 7 (ctG X)), (2, SV.str (⟨#[]⟩ : ByteArray)), (3, SV.int .i64 0), (4, SV.int .i64 0)], store := [], nxt := 0, dirty := [], nt := 86 })) := by kernel_rfl
theorem qt_round (n : Nat) (X : Nat → Ct) (i : Nat) (K : Ex → St → Prop) : roundE qtE (keepW qtR 0) qtF qtP 0 K (qtS n X 0 i) =
  (Br (decide ((↑i : Int) < (↑n : Int))) (Br (decide (0 ≤ (↑i : Int)) && decide ((↑i : Int) < (↑n : Int))) (Br (rightV ((X (↑i : Int).toNat)) != 0) (K Ex.ret { tmps := [(0, SV.ro n 7 (ctG X)), (2, SV.str (⟨#[]⟩ : ByteArray)), (3, SV.int .i64 40), (4, SV.int .i64 (↑i : Int))], store := [], nxt := 0, dirty := [], nt := 86 }) (K Ex.normal { tmps := [(0, SV.ro n 7 (ctG X)), (2, SV.str (⟨#[]⟩ : ByteArray)), (3, SV.int .i64 0), (4, SV.int .i64 (IntKind.i64.wrap ((↑i : Int) + 1)))], store := [], nxt := 0, dirty := [], nt := 86 })) (False)) (K (Ex.exit 0) { tmps := [(0, SV.ro n 7 (ctG X)), (2, SV.str (⟨#[]⟩ : ByteArray)), (3, SV.int .i64 0), (4, SV.int .i64 (↑i : Int))], store := [], nxt := 0, dirty := [], nt := 86 })) := by kernel_rfl
theorem qt_bad (n : Nat) (X : Nat → Ct) (i : Nat) (K : KC) : afterE qtE (keepW qtR 0) qtF qtP 0 K .ret (qtS n X 40 i) =
  (K (SV.tup [SV.str (⟨#[]⟩ : ByteArray), SV.int .i64 40]) [] []) := by kernel_rfl
theorem qt_mid (n : Nat) (X : Nat → Ct) (i : Nat) (K : KC) : afterE qtE (keepW qtR 0) qtF qtP 0 K (.exit 0) (qtS n X 0 i) =
  (∃ (e400 : Nat → Ct), (ctG X = ctG e400 ∧ n ≤ 16777216) ∧ (∃ q_, loopE qtE (keepW qtR 0) qtF qtQ 2 0 K q_ { tmps := [(0, SV.ro n 7 (ctG X)), (2, SV.str (⟨#[]⟩ : ByteArray)), (3, SV.int .i64 0), (5, SV.str (⟨#[115, 99, 114, 105, 112, 116, 10]⟩ : ByteArray)), (6, SV.int .i64 0), (7, SV.ro (runsS e400 n 0).length 1 (listG niC 0 (runsS e400 n 0))), (8, SV.int .i64 0)], store := [], nxt := 2, dirty := [0, 1, 2, 3, 4, 5], nt := 86 })) := by kernel_rfl
theorem qt_line (n : Nat) (X : Nat → Ct) (s : ByteArray) (a : Nat) (L : List Int) (i : Nat) (K : Ex → St → Prop) : roundE qtE (keepW qtR 0) qtF qtQ 2 K (qtT n X s a L i) =
  (Br (decide ((↑i : Int) < (↑L.length : Int))) (Br (decide (0 ≤ (↑a : Int)) && decide ((↑a : Int) < (↑n : Int))) (Br (decide (s.size + 2 < 9223372036854775808)) (Br (decide (0 ≤ (↑i : Int)) && decide ((↑i : Int) < (↑L.length : Int))) (Br (decide (1 + (bytesOf (wholeL (L.getD (↑i : Int).toNat 0))).size < 9223372036854775808)) (Br (decide ((s ++ (⟨#[100, 111]⟩ : ByteArray)).size + ((⟨#[32]⟩ : ByteArray) ++ bytesOf (wholeL (L.getD (↑i : Int).toNat 0))).size < 9223372036854775808)) (Br (decide (1 + (bytesOf (wholeL (X (↑a : Int).toNat).t)).size < 9223372036854775808)) (Br (decide ((s ++ (⟨#[100, 111]⟩ : ByteArray) ++ ((⟨#[32]⟩ : ByteArray) ++ bytesOf (wholeL (L.getD (↑i : Int).toNat 0)))).size + ((⟨#[32]⟩ : ByteArray) ++ bytesOf (wholeL (X (↑a : Int).toNat).t)).size < 9223372036854775808)) (Br (decide (1 + (bytesOf (wholeL (X (↑a : Int).toNat).b)).size < 9223372036854775808)) (Br (decide ((s ++ (⟨#[100, 111]⟩ : ByteArray) ++ ((⟨#[32]⟩ : ByteArray) ++ bytesOf (wholeL (L.getD (↑i : Int).toNat 0))) ++ ((⟨#[32]⟩ : ByteArray) ++ bytesOf (wholeL (X (↑a : Int).toNat).t))).size + ((⟨#[32]⟩ : ByteArray) ++ bytesOf (wholeL (X (↑a : Int).toNat).b)).size < 9223372036854775808)) (Br (decide (1 + (bytesOf (wholeL (X (↑a : Int).toNat).c)).size < 9223372036854775808)) (Br (decide ((s ++ (⟨#[100, 111]⟩ : ByteArray) ++ ((⟨#[32]⟩ : ByteArray) ++ bytesOf (wholeL (L.getD (↑i : Int).toNat 0))) ++ ((⟨#[32]⟩ : ByteArray) ++ bytesOf (wholeL (X (↑a : Int).toNat).t)) ++ ((⟨#[32]⟩ : ByteArray) ++ bytesOf (wholeL (X (↑a : Int).toNat).b))).size + ((⟨#[32]⟩ : ByteArray) ++ bytesOf (wholeL (X (↑a : Int).toNat).c)).size < 9223372036854775808)) (Br (decide (1 + (bytesOf (wholeL (X (↑a : Int).toNat).s)).size < 9223372036854775808)) (Br (decide ((s ++ (⟨#[100, 111]⟩ : ByteArray) ++ ((⟨#[32]⟩ : ByteArray) ++ bytesOf (wholeL (L.getD (↑i : Int).toNat 0))) ++ ((⟨#[32]⟩ : ByteArray) ++ bytesOf (wholeL (X (↑a : Int).toNat).t)) ++ ((⟨#[32]⟩ : ByteArray) ++ bytesOf (wholeL (X (↑a : Int).toNat).b)) ++ ((⟨#[32]⟩ : ByteArray) ++ bytesOf (wholeL (X (↑a : Int).toNat).c))).size + ((⟨#[32]⟩ : ByteArray) ++ bytesOf (wholeL (X (↑a : Int).toNat).s)).size < 9223372036854775808)) (Br (decide (1 + (bytesOf (wholeL (X (↑a : Int).toNat).g)).size < 9223372036854775808)) (Br (decide ((s ++ (⟨#[100, 111]⟩ : ByteArray) ++ ((⟨#[32]⟩ : ByteArray) ++ bytesOf (wholeL (L.getD (↑i : Int).toNat 0))) ++ ((⟨#[32]⟩ : ByteArray) ++ bytesOf (wholeL (X (↑a : Int).toNat).t)) ++ ((⟨#[32]⟩ : ByteArray) ++ bytesOf (wholeL (X (↑a : Int).toNat).b)) ++ ((⟨#[32]⟩ : ByteArray) ++ bytesOf (wholeL (X (↑a : Int).toNat).c)) ++ ((⟨#[32]⟩ : ByteArray) ++ bytesOf (wholeL (X (↑a : Int).toNat).s))).size + ((⟨#[32]⟩ : ByteArray) ++ bytesOf (wholeL (X (↑a : Int).toNat).g)).size < 9223372036854775808)) (Br ((X (↑a : Int).toNat).a) (Br (decide ((s ++ (⟨#[100, 111]⟩ : ByteArray) ++ ((⟨#[32]⟩ : ByteArray) ++ bytesOf (wholeL (L.getD (↑i : Int).toNat 0))) ++ ((⟨#[32]⟩ : ByteArray) ++ bytesOf (wholeL (X (↑a : Int).toNat).t)) ++ ((⟨#[32]⟩ : ByteArray) ++ bytesOf (wholeL (X (↑a : Int).toNat).b)) ++ ((⟨#[32]⟩ : ByteArray) ++ bytesOf (wholeL (X (↑a : Int).toNat).c)) ++ ((⟨#[32]⟩ : ByteArray) ++ bytesOf (wholeL (X (↑a : Int).toNat).s)) ++ ((⟨#[32]⟩ : ByteArray) ++ bytesOf (wholeL (X (↑a : Int).toNat).g))).size + 5 < 9223372036854775808)) (Br ((X (↑a : Int).toNat).r) (Br (decide ((s ++ (⟨#[100, 111]⟩ : ByteArray) ++ ((⟨#[32]⟩ : ByteArray) ++ bytesOf (wholeL (L.getD (↑i : Int).toNat 0))) ++ ((⟨#[32]⟩ : ByteArray) ++ bytesOf (wholeL (X (↑a : Int).toNat).t)) ++ ((⟨#[32]⟩ : ByteArray) ++ bytesOf (wholeL (X (↑a : Int).toNat).b)) ++ ((⟨#[32]⟩ : ByteArray) ++ bytesOf (wholeL (X (↑a : Int).toNat).c)) ++ ((⟨#[32]⟩ : ByteArray) ++ bytesOf (wholeL (X (↑a : Int).toNat).s)) ++ ((⟨#[32]⟩ : ByteArray) ++ bytesOf (wholeL (X (↑a : Int).toNat).g)) ++ (⟨#[32, 97, 117, 116, 111]⟩ : ByteArray)).size + 6 < 9223372036854775808)) (Br (decide ((s ++ (⟨#[100, 111]⟩ : ByteArray) ++ ((⟨#[32]⟩ : ByteArray) ++ bytesOf (wholeL (L.getD (↑i : Int).toNat 0))) ++ ((⟨#[32]⟩ : ByteArray) ++ bytesOf (wholeL (X (↑a : Int).toNat).t)) ++ ((⟨#[32]⟩ : ByteArray) ++ bytesOf (wholeL (X (↑a : Int).toNat).b)) ++ ((⟨#[32]⟩ : ByteArray) ++ bytesOf (wholeL (X (↑a : Int).toNat).c)) ++ ((⟨#[32]⟩ : ByteArray) ++ bytesOf (wholeL (X (↑a : Int).toNat).s)) ++ ((⟨#[32]⟩ : ByteArray) ++ bytesOf (wholeL (X (↑a : Int).toNat).g)) ++ (⟨#[32, 97, 117, 116, 111]⟩ : ByteArray) ++ (⟨#[32, 114, 101, 115, 101, 116]⟩ : ByteArray)).size + 1 < 9223372036854775808)) (Br (decide (0 ≤ (↑i : Int)) && decide ((↑i : Int) < (↑L.length : Int))) (K Ex.normal { tmps := [(0, SV.ro n 7 (ctG X)), (2, SV.str (⟨#[]⟩ : ByteArray)), (3, SV.int .i64 0), (5, SV.str (s ++ (⟨#[100, 111]⟩ : ByteArray) ++ ((⟨#[32]⟩ : ByteArray) ++ bytesOf (wholeL (L.getD (↑i : Int).toNat 0))) ++ ((⟨#[32]⟩ : ByteArray) ++ bytesOf (wholeL (X (↑a : Int).toNat).t)) ++ ((⟨#[32]⟩ : ByteArray) ++ bytesOf (wholeL (X (↑a : Int).toNat).b)) ++ ((⟨#[32]⟩ : ByteArray) ++ bytesOf (wholeL (X (↑a : Int).toNat).c)) ++ ((⟨#[32]⟩ : ByteArray) ++ bytesOf (wholeL (X (↑a : Int).toNat).s)) ++ ((⟨#[32]⟩ : ByteArray) ++ bytesOf (wholeL (X (↑a : Int).toNat).g)) ++ (⟨#[32, 97, 117, 116, 111]⟩ : ByteArray) ++ (⟨#[32, 114, 101, 115, 101, 116]⟩ : ByteArray) ++ (⟨#[10]⟩ : ByteArray))), (6, SV.int .i64 (IntKind.i64.wrap ((↑a : Int) + L.getD (↑i : Int).toNat 0))), (7, SV.ro L.length 1 (listG niC 0 L)), (8, SV.int .i64 (IntKind.i64.wrap ((↑i : Int) + 1)))], store := [], nxt := 2, dirty := [0, 1, 2, 3, 4, 5], nt := 86 }) (False)) (False)) (False)) (Br (decide ((s ++ (⟨#[100, 111]⟩ : ByteArray) ++ ((⟨#[32]⟩ : ByteArray) ++ bytesOf (wholeL (L.getD (↑i : Int).toNat 0))) ++ ((⟨#[32]⟩ : ByteArray) ++ bytesOf (wholeL (X (↑a : Int).toNat).t)) ++ ((⟨#[32]⟩ : ByteArray) ++ bytesOf (wholeL (X (↑a : Int).toNat).b)) ++ ((⟨#[32]⟩ : ByteArray) ++ bytesOf (wholeL (X (↑a : Int).toNat).c)) ++ ((⟨#[32]⟩ : ByteArray) ++ bytesOf (wholeL (X (↑a : Int).toNat).s)) ++ ((⟨#[32]⟩ : ByteArray) ++ bytesOf (wholeL (X (↑a : Int).toNat).g)) ++ (⟨#[32, 97, 117, 116, 111]⟩ : ByteArray)).size + 1 < 9223372036854775808)) (Br (decide (0 ≤ (↑i : Int)) && decide ((↑i : Int) < (↑L.length : Int))) (K Ex.normal { tmps := [(0, SV.ro n 7 (ctG X)), (2, SV.str (⟨#[]⟩ : ByteArray)), (3, SV.int .i64 0), (5, SV.str (s ++ (⟨#[100, 111]⟩ : ByteArray) ++ ((⟨#[32]⟩ : ByteArray) ++ bytesOf (wholeL (L.getD (↑i : Int).toNat 0))) ++ ((⟨#[32]⟩ : ByteArray) ++ bytesOf (wholeL (X (↑a : Int).toNat).t)) ++ ((⟨#[32]⟩ : ByteArray) ++ bytesOf (wholeL (X (↑a : Int).toNat).b)) ++ ((⟨#[32]⟩ : ByteArray) ++ bytesOf (wholeL (X (↑a : Int).toNat).c)) ++ ((⟨#[32]⟩ : ByteArray) ++ bytesOf (wholeL (X (↑a : Int).toNat).s)) ++ ((⟨#[32]⟩ : ByteArray) ++ bytesOf (wholeL (X (↑a : Int).toNat).g)) ++ (⟨#[32, 97, 117, 116, 111]⟩ : ByteArray) ++ (⟨#[10]⟩ : ByteArray))), (6, SV.int .i64 (IntKind.i64.wrap ((↑a : Int) + L.getD (↑i : Int).toNat 0))), (7, SV.ro L.length 1 (listG niC 0 L)), (8, SV.int .i64 (IntKind.i64.wrap ((↑i : Int) + 1)))], store := [], nxt := 2, dirty := [0, 1, 2, 3, 4, 5], nt := 86 }) (False)) (False))) (False)) (Br ((X (↑a : Int).toNat).r) (Br (decide ((s ++ (⟨#[100, 111]⟩ : ByteArray) ++ ((⟨#[32]⟩ : ByteArray) ++ bytesOf (wholeL (L.getD (↑i : Int).toNat 0))) ++ ((⟨#[32]⟩ : ByteArray) ++ bytesOf (wholeL (X (↑a : Int).toNat).t)) ++ ((⟨#[32]⟩ : ByteArray) ++ bytesOf (wholeL (X (↑a : Int).toNat).b)) ++ ((⟨#[32]⟩ : ByteArray) ++ bytesOf (wholeL (X (↑a : Int).toNat).c)) ++ ((⟨#[32]⟩ : ByteArray) ++ bytesOf (wholeL (X (↑a : Int).toNat).s)) ++ ((⟨#[32]⟩ : ByteArray) ++ bytesOf (wholeL (X (↑a : Int).toNat).g))).size + 6 < 9223372036854775808)) (Br (decide ((s ++ (⟨#[100, 111]⟩ : ByteArray) ++ ((⟨#[32]⟩ : ByteArray) ++ bytesOf (wholeL (L.getD (↑i : Int).toNat 0))) ++ ((⟨#[32]⟩ : ByteArray) ++ bytesOf (wholeL (X (↑a : Int).toNat).t)) ++ ((⟨#[32]⟩ : ByteArray) ++ bytesOf (wholeL (X (↑a : Int).toNat).b)) ++ ((⟨#[32]⟩ : ByteArray) ++ bytesOf (wholeL (X (↑a : Int).toNat).c)) ++ ((⟨#[32]⟩ : ByteArray) ++ bytesOf (wholeL (X (↑a : Int).toNat).s)) ++ ((⟨#[32]⟩ : ByteArray) ++ bytesOf (wholeL (X (↑a : Int).toNat).g)) ++ (⟨#[32, 114, 101, 115, 101, 116]⟩ : ByteArray)).size + 1 < 9223372036854775808)) (Br (decide (0 ≤ (↑i : Int)) && decide ((↑i : Int) < (↑L.length : Int))) (K Ex.normal { tmps := [(0, SV.ro n 7 (ctG X)), (2, SV.str (⟨#[]⟩ : ByteArray)), (3, SV.int .i64 0), (5, SV.str (s ++ (⟨#[100, 111]⟩ : ByteArray) ++ ((⟨#[32]⟩ : ByteArray) ++ bytesOf (wholeL (L.getD (↑i : Int).toNat 0))) ++ ((⟨#[32]⟩ : ByteArray) ++ bytesOf (wholeL (X (↑a : Int).toNat).t)) ++ ((⟨#[32]⟩ : ByteArray) ++ bytesOf (wholeL (X (↑a : Int).toNat).b)) ++ ((⟨#[32]⟩ : ByteArray) ++ bytesOf (wholeL (X (↑a : Int).toNat).c)) ++ ((⟨#[32]⟩ : ByteArray) ++ bytesOf (wholeL (X (↑a : Int).toNat).s)) ++ ((⟨#[32]⟩ : ByteArray) ++ bytesOf (wholeL (X (↑a : Int).toNat).g)) ++ (⟨#[32, 114, 101, 115, 101, 116]⟩ : ByteArray) ++ (⟨#[10]⟩ : ByteArray))), (6, SV.int .i64 (IntKind.i64.wrap ((↑a : Int) + L.getD (↑i : Int).toNat 0))), (7, SV.ro L.length 1 (listG niC 0 L)), (8, SV.int .i64 (IntKind.i64.wrap ((↑i : Int) + 1)))], store := [], nxt := 2, dirty := [0, 1, 2, 3, 4, 5], nt := 86 }) (False)) (False)) (False)) (Br (decide ((s ++ (⟨#[100, 111]⟩ : ByteArray) ++ ((⟨#[32]⟩ : ByteArray) ++ bytesOf (wholeL (L.getD (↑i : Int).toNat 0))) ++ ((⟨#[32]⟩ : ByteArray) ++ bytesOf (wholeL (X (↑a : Int).toNat).t)) ++ ((⟨#[32]⟩ : ByteArray) ++ bytesOf (wholeL (X (↑a : Int).toNat).b)) ++ ((⟨#[32]⟩ : ByteArray) ++ bytesOf (wholeL (X (↑a : Int).toNat).c)) ++ ((⟨#[32]⟩ : ByteArray) ++ bytesOf (wholeL (X (↑a : Int).toNat).s)) ++ ((⟨#[32]⟩ : ByteArray) ++ bytesOf (wholeL (X (↑a : Int).toNat).g))).size + 1 < 9223372036854775808)) (Br (decide (0 ≤ (↑i : Int)) && decide ((↑i : Int) < (↑L.length : Int))) (K Ex.normal { tmps := [(0, SV.ro n 7 (ctG X)), (2, SV.str (⟨#[]⟩ : ByteArray)), (3, SV.int .i64 0), (5, SV.str (s ++ (⟨#[100, 111]⟩ : ByteArray) ++ ((⟨#[32]⟩ : ByteArray) ++ bytesOf (wholeL (L.getD (↑i : Int).toNat 0))) ++ ((⟨#[32]⟩ : ByteArray) ++ bytesOf (wholeL (X (↑a : Int).toNat).t)) ++ ((⟨#[32]⟩ : ByteArray) ++ bytesOf (wholeL (X (↑a : Int).toNat).b)) ++ ((⟨#[32]⟩ : ByteArray) ++ bytesOf (wholeL (X (↑a : Int).toNat).c)) ++ ((⟨#[32]⟩ : ByteArray) ++ bytesOf (wholeL (X (↑a : Int).toNat).s)) ++ ((⟨#[32]⟩ : ByteArray) ++ bytesOf (wholeL (X (↑a : Int).toNat).g)) ++ (⟨#[10]⟩ : ByteArray))), (6, SV.int .i64 (IntKind.i64.wrap ((↑a : Int) + L.getD (↑i : Int).toNat 0))), (7, SV.ro L.length 1 (listG niC 0 L)), (8, SV.int .i64 (IntKind.i64.wrap ((↑i : Int) + 1)))], store := [], nxt := 2, dirty := [0, 1, 2, 3, 4, 5], nt := 86 }) (False)) (False)))) (False)) (False)) (False)) (False)) (False)) (False)) (False)) (False)) (False)) (False)) (False)) (False)) (False)) (False)) (False)) (K (Ex.exit 2) { tmps := [(0, SV.ro n 7 (ctG X)), (2, SV.str (⟨#[]⟩ : ByteArray)), (3, SV.int .i64 0), (5, SV.str s), (6, SV.int .i64 (↑a : Int)), (7, SV.ro L.length 1 (listG niC 0 L)), (8, SV.int .i64 (↑i : Int))], store := [], nxt := 2, dirty := [0, 1, 2, 3, 4, 5], nt := 86 })) := by kernel_rfl
theorem qt_after (n : Nat) (X : Nat → Ct) (s : ByteArray) (a : Nat) (L : List Int) (i : Nat) (K : KC) : afterE qtE (keepW qtR 0) qtF qtQ 0 K (.exit 2) (qtT n X s a L i) =
  (Br (decide (s.size + 4 < 9223372036854775808)) (K (SV.tup [SV.str (s ++ (⟨#[101, 110, 100, 10]⟩ : ByteArray)), SV.int .i64 0]) [] []) (False)) := by kernel_rfl
theorem qt_step (n : Nat) (X : Nat → Ct) (l : List Int) (a : Nat) (L : List Int) (i k : Nat) (hn : n ≤ 16777216) (ha : a < n) (hl : l.length ≤ 4000000000) (hL : L.length ≤ n) (hi : i < L.length) (hk : L.getD i 0 = (k : Int)) (hkn : k ≤ n) {KK : Ex → St → Prop} {N : St → Prop}
    (hN : N (qtT n X (bytesOf (l ++ rnT k (X a))) (a + k : Nat) L (i + 1 : Nat))) : roundE qtE (keepW qtR 0) qtF qtQ 2 (nextK N KK) (qtT n X (bytesOf l) a L i) := by
  rw [qt_line]
  have hw1 : IntKind.i64.wrap ((a : Int) + (k : Int)) = ((a + k : Nat) : Int) := by rw [wi64]; omega
  have hw2 : IntKind.i64.wrap ((i : Int) + 1) = ((i + 1 : Nat) : Int) := by rw [wi64]; omega
  simp only [Int.toNat_natCast, hk, hw1, hw2]
  have hb : (decide (0 ≤ (i : Int)) && decide ((i : Int) < (L.length : Int))) = true := by simp; omega
  have w0 := wholeL_len k; have w1 := wholeL_len (X a).t; have w2 := wholeL_len (X a).b; have w3 := wholeL_len (X a).c; have w4 := wholeL_len (X a).s; have w5 := wholeL_len (X a).g
  have z2 : (⟨#[100, 111]⟩ : ByteArray).size = 2 := rfl
  have z1 : (⟨#[32]⟩ : ByteArray).size = 1 := rfl
  have z5 : (⟨#[32, 97, 117, 116, 111]⟩ : ByteArray).size = 5 := rfl
  have z6 : (⟨#[32, 114, 101, 115, 101, 116]⟩ : ByteArray).size = 6 := rfl
  have e2 : (⟨#[100, 111]⟩ : ByteArray) = bytesOf [100, 111] := rfl
  have e1 : (⟨#[32]⟩ : ByteArray) = bytesOf [32] := rfl
  have e5 : (⟨#[32, 97, 117, 116, 111]⟩ : ByteArray) = bytesOf [32, 97, 117, 116, 111] := rfl
  have e6 : (⟨#[32, 114, 101, 115, 101, 116]⟩ : ByteArray) = bytesOf [32, 114, 101, 115, 101, 116] := rfl
  have e10 : (⟨#[10]⟩ : ByteArray) = bytesOf [10] := rfl
  unfold rnT flagT sp at hN
  refine Br.of (fun _ => Br.of (fun _ => Br.of (fun _ => Br.of (fun _ => Br.of (fun _ => Br.of (fun _ => Br.of (fun _ => Br.of (fun _ => Br.of (fun _ => Br.of (fun _ => Br.of (fun _ => Br.of (fun _ => Br.of (fun _ => Br.of (fun _ => Br.of (fun _ => Br.of (fun _ => Br.of (fun ha' => Br.of (fun _ => Br.of (fun hr => Br.of (fun _ => Br.of (fun _ => Br.of (fun _ => ?_) (fun f => absurd (hb.symm.trans f) (by decide))) (fun f => absurd f (by simp only [ByteArray.size_append, bytes_size, z2, z1, z5, z6, decide_eq_false_iff_not]; omega))) (fun f => absurd f (by simp only [ByteArray.size_append, bytes_size, z2, z1, z5, z6, decide_eq_false_iff_not]; omega))) fun hr => Br.of (fun _ => Br.of (fun _ => ?_) (fun f => absurd (hb.symm.trans f) (by decide))) (fun f => absurd f (by simp only [ByteArray.size_append, bytes_size, z2, z1, z5, z6, decide_eq_false_iff_not]; omega))) (fun f => absurd f (by simp only [ByteArray.size_append, bytes_size, z2, z1, z5, z6, decide_eq_false_iff_not]; omega))) fun ha' => Br.of (fun hr => Br.of (fun _ => Br.of (fun _ => Br.of (fun _ => ?_) (fun f => absurd (hb.symm.trans f) (by decide))) (fun f => absurd f (by simp only [ByteArray.size_append, bytes_size, z2, z1, z5, z6, decide_eq_false_iff_not]; omega))) (fun f => absurd f (by simp only [ByteArray.size_append, bytes_size, z2, z1, z5, z6, decide_eq_false_iff_not]; omega))) fun hr => Br.of (fun _ => Br.of (fun _ => ?_) (fun f => absurd (hb.symm.trans f) (by decide))) (fun f => absurd f (by simp only [ByteArray.size_append, bytes_size, z2, z1, z5, z6, decide_eq_false_iff_not]; omega))) (fun f => absurd f (by simp only [ByteArray.size_append, bytes_size, z2, z1, z5, z6, decide_eq_false_iff_not]; omega))) (fun f => absurd f (by simp only [ByteArray.size_append, bytes_size, z2, z1, z5, z6, decide_eq_false_iff_not]; omega))) (fun f => absurd f (by simp only [ByteArray.size_append, bytes_size, z2, z1, z5, z6, decide_eq_false_iff_not]; omega))) (fun f => absurd f (by simp only [ByteArray.size_append, bytes_size, z2, z1, z5, z6, decide_eq_false_iff_not]; omega))) (fun f => absurd f (by simp only [ByteArray.size_append, bytes_size, z2, z1, z5, z6, decide_eq_false_iff_not]; omega))) (fun f => absurd f (by simp only [ByteArray.size_append, bytes_size, z2, z1, z5, z6, decide_eq_false_iff_not]; omega))) (fun f => absurd f (by simp only [ByteArray.size_append, bytes_size, z2, z1, z5, z6, decide_eq_false_iff_not]; omega))) (fun f => absurd f (by simp only [ByteArray.size_append, bytes_size, z2, z1, z5, z6, decide_eq_false_iff_not]; omega))) (fun f => absurd f (by simp only [ByteArray.size_append, bytes_size, z2, z1, z5, z6, decide_eq_false_iff_not]; omega))) (fun f => absurd f (by simp only [ByteArray.size_append, bytes_size, z2, z1, z5, z6, decide_eq_false_iff_not]; omega))) (fun f => absurd f (by simp only [ByteArray.size_append, bytes_size, z2, z1, z5, z6, decide_eq_false_iff_not]; omega))) (fun f => absurd f (by simp only [ByteArray.size_append, bytes_size, z2, z1, z5, z6, decide_eq_false_iff_not]; omega))) (fun f => absurd (hb.symm.trans f) (by decide))) (fun f => absurd f (by simp only [ByteArray.size_append, bytes_size, z2, z1, z5, z6, decide_eq_false_iff_not]; omega))) fun f => absurd f (by simp; omega)) fun f => absurd (of_decide_eq_false f) (by omega)
  all_goals
    rw [ha', hr] at hN
    simp only [e2, e1, e5, e6, e10, bytes_append, List.append_assoc, cond_true, cond_false, List.nil_append, List.cons_append] at hN ⊢
    exact hN
end Go.Proofs.YtjlmofhokbnloaaDoor

namespace Go.Proofs.YtjlmofhokbnloaaDoor
open Go.Se
set_option maxRecDepth 100000
theorem qt_lines (n : Nat) (X : Nat → Ct) (hn : n ≤ 16777216) (K : KC) (hK : K (.tup [.str (bytesOf (printT X n)), .int .i64 0]) [] []) :
    ∃ q, loopE qtE (keepW qtR 0) qtF qtQ 2 0 K q (qtT n X (bytesOf [115, 99, 114, 105, 112, 116, 10]) (0 : Nat) (runsS X n 0) (0 : Nat)) := by
  have hl := runsS_len (X := X) (n := n)
  generalize hL : runsS X n 0 = L at *
  refine ⟨L.length + 1, loop_m (fun b : Nat × Nat × List Int => qtT n X (bytesOf b.2.2) b.1 L b.2.1) (fun b => L.length - b.2.1) (fun b => b.1 ≤ n ∧ b.2.1 ≤ L.length ∧ L.drop b.2.1 = runsS X n b.1 ∧ b.2.2 ++ textS X n b.1 = [115, 99, 114, 105, 112, 116, 10] ++ textS X n 0 ∧ b.2.2.length ≤ 100 + 160 * b.1) ?_ (L.length + 1) (0, 0, [115, 99, 114, 105, 112, 116, 10]) ⟨Nat.zero_le _, Nat.zero_le _, hL.symm, rfl, by decide⟩ (by show L.length - 0 < _; omega)⟩
  rintro ⟨a, i, l⟩ ⟨h1, h2, h3, h4, h5⟩ Y hY
  simp only at h1 h2 h3 h4 h5 hY ⊢
  by_cases c : i < L.length
  · have ha : a < n := Nat.not_le.1 fun h => by
      rw [runsS_end h] at h3
      have := congrArg List.length h3
      rw [List.length_drop] at this
      have : L.length - i = 0 := this
      omega
    rw [runsS_step ha] at h3
    obtain ⟨_, g1, g2⟩ := drop_cons_iff h3
    have r1 := rnN_pos (X := X) ha
    have r2 := rnN_le (X := X) (n := n) (p := a)
    have r3 := rnT_len (rnN X n a) (X a)
    refine qt_step n X l a L i (rnN X n a) hn ha (by omega) hl c (g1 0) (by omega) ?_
    exact hY (a + rnN X n a, i + 1, l ++ rnT (rnN X n a) (X a)) ⟨by show a + rnN X n a ≤ n; omega, c, g2, by show (l ++ rnT (rnN X n a) (X a)) ++ textS X n (a + rnN X n a) = _; rw [List.append_assoc, ← textS_step ha]; exact h4, by show (l ++ rnT (rnN X n a) (X a)).length ≤ 100 + 160 * (a + rnN X n a); rw [List.length_append]; omega⟩ (by show L.length - (i + 1) < L.length - i; omega)
  · have hi : i = L.length := by omega
    subst hi
    rw [List.drop_length] at h3
    have ha : a = n := by
      refine Nat.le_antisymm h1 (Nat.not_lt.1 fun h => ?_)
      rw [runsS_step h] at h3
      cases h3
    subst ha
    rw [textS_end (Nat.le_refl a), List.append_nil] at h4
    rw [qt_line]
    refine Br.of (fun f => absurd (of_decide_eq_true f) (by omega)) fun _ => ?_
    show afterE qtE (keepW qtR 0) qtF qtQ 0 K (.exit 2) (qtT a X (bytesOf l) a L L.length)
    rw [qt_after, bytes_size]
    refine Br.of (fun _ => ?_) fun f => absurd (of_decide_eq_false f) (by omega)
    rw [show (⟨#[101, 110, 100, 10]⟩ : ByteArray) = bytesOf [101, 110, 100, 10] from rfl, bytes_append, h4]
    exact hK
theorem qt_law (n : Nat) (X : Nat → Ct) (K : KC) (hK : K (.tup [.str (bytesOf (printR X n)), .int .i64 (printE X n)]) [] []) : runL qtR qtU c15 3 15 [.ro n 7 (ctG X)] [] K := by
  rw [qt_entry]
  refine Br.of (fun c => ?_) fun c => ?_
  · have e : printE X n = 42 := by
      unfold printE
      rw [decide_eq_true (show n > 16777216 by have := of_decide_eq_true c; omega)]; rfl
    rw [print_bad (by rw [e]; decide), e] at hK
    exact hK
  · have hn : n ≤ 16777216 := by have := of_decide_eq_false c; omega
    refine ⟨n + 1, loop_up (fun i : Nat => qtS n X 0 i) n (fun i => ∀ j, j < i → rightV (X j) = 0) (fun i hi hj Y hY => ?_) (fun hj Y => ?_) fun j h => absurd h (Nat.not_lt_zero j)⟩
    · rw [qt_round, show IntKind.i64.wrap ((i : Int) + 1) = ((i + 1 : Nat) : Int) by rw [wi64]; omega]
      simp only [Int.toNat_natCast]
      refine Br.of (fun _ => Br.of (fun _ => Br.of (fun d => ?_) fun d => ?_) fun f => absurd f (by simp; omega)) fun f => absurd (of_decide_eq_false f) (by omega)
      · show afterE qtE (keepW qtR 0) qtF qtP 0 K .ret (qtS n X 40 i)
        rw [qt_bad]
        have e : printE X n = 40 := by
          have hb : badIx X n = true := by
            cases hb : badIx X n with
            | true => rfl
            | false =>
              have := right_t (bad_f hb i hi)
              rw [this] at d; cases d
          unfold printE
          rw [decide_eq_false (show ¬ n > 16777216 by omega), hb]; rfl
        rw [print_bad (by rw [e]; decide), e] at hK
        exact hK
      · refine hY fun j hj' => ?_
        by_cases h : j < i
        · exact hj j h
        · rw [show j = i by omega]; simpa using d
    · rw [qt_round]
      refine Br.of (fun f => absurd (of_decide_eq_true f) (by omega)) fun _ => ?_
      show afterE qtE (keepW qtR 0) qtF qtP 0 K (.exit 0) (qtS n X 0 n)
      rw [qt_mid]
      obtain ⟨e1, e2⟩ := print_good hn fun i hi => right_0 (hj i hi)
      rw [e1, e2] at hK
      exact ⟨X, ⟨rfl, hn⟩, qt_lines n X hn K hK⟩
theorem rprint_ok (n : Nat) (X : Nat → Ct) : CallOK Tryd.prog 15 [.ro n 7 (ctG X)] [] (.tup [.str (bytesOf (printR X n)), .int .i64 (printE X n)]) [] [] :=
  runL_ok qtR qtU c15 3 (fun _ h => nomatch h) fun _ _ K hK => qt_law n X K (hK [] fun _ h => nomatch h)
theorem rpr_sat (xs : List SV) (σ : List (Option SB)) : Sat Tryd.prog 15 xs σ (cPr xs σ) := by
  intro K hK
  unfold cPr at hK
  split at hK
  case h_2 => exact hK.elim
  obtain ⟨X, rfl, hK⟩ := hK
  exact ⟨_, _, _, hK, rprint_ok _ X⟩
noncomputable def c16 : Know Tryd.prog := (c15).add 15 cPr rpr_sat
def ptR : List (Nat × Keep) := [(0, ⟨[2, 3, 4, 5, 6, 7, 8, 9], [], [], 0, []⟩)]
noncomputable abbrev ptE : Env := envL ptR (fun _ => 0) c16 1
noncomputable abbrev ptF : Func := Tryd.f6
abbrev ptP : List Nat := [1, 1, 1, 1, 1, 1, 1, 0, 1, 0]
def ptS (s : ByteArray) (e : Int) (L : List Int) (i : Int) : St := ⟨[(2, .bool false), (3, .str s), (4, .int .i64 e), (5, .str s), (6, .int .i64 e), (7, .ro L.length 1 (listG niC 0 L)), (8, .ro L.length 1 (listG niC 0 L)), (9, .int .i64 i)], [], 0, [], 58⟩
theorem pt_entry (n : Nat) (X : Nat → Ct) (K : KC) : runL ptR (fun _ => 0) c16 2 6 [.ro n 7 (ctG X)] [] K =
  (Br (decide ((↑n : Int) > 500)) (K (SV.bool true) [] []) (∃ (e399 : Nat → Ct), (ctG X = ctG e399) ∧ (∃ (e397 : Nat → Ct), (ctG X = ctG e397) ∧ (∃ (e395 : Nat → Ct), (ctG X = ctG e395 ∧ n ≤ 16777216) ∧ (∃ (e393 : Nat → Ct), (ctG X = ctG e393 ∧ n ≤ 16777216) ∧ (Br ((↑(runsS e395 n 0).length : Int) != (↑(runsS e393 n 0).length : Int)) (K (SV.bool false) [] []) (∃ q_, loopE ptE (keepW ptR 0) ptF ptP 0 0 K q_ { tmps := [(2, SV.bool false), (3, SV.str (bytesOf (printR e399 n))), (4, SV.int .i64 (printE e399 n)), (5, SV.str (bytesOf (printR e397 n))), (6, SV.int .i64 (printE e397 n)), (7, SV.ro (runsS e395 n 0).length 1 (listG niC 0 (runsS e395 n 0))), (8, SV.ro (runsS e393 n 0).length 1 (listG niC 0 (runsS e393 n 0))), (9, SV.int .i64 0)], store := [], nxt := 0, dirty := [], nt := 58 }))))))) := by kernel_rfl
theorem pt_round (s : ByteArray) (e : Int) (L : List Int) (i : Nat) (K : Ex → St → Prop) : roundE ptE (keepW ptR 0) ptF ptP 0 K (ptS s e L i) =
  (Br (decide ((↑i : Int) < (↑L.length : Int))) (Br (decide (0 ≤ (↑i : Int)) && decide ((↑i : Int) < (↑L.length : Int))) (Br (decide (0 ≤ (↑i : Int)) && decide ((↑i : Int) < (↑L.length : Int))) (Br (L.getD (↑i : Int).toNat 0 != L.getD (↑i : Int).toNat 0) (K Ex.ret { tmps := [(2, SV.bool false), (3, SV.str s), (4, SV.int .i64 e), (5, SV.str s), (6, SV.int .i64 e), (7, SV.ro L.length 1 (listG niC 0 L)), (8, SV.ro L.length 1 (listG niC 0 L)), (9, SV.int .i64 (↑i : Int))], store := [], nxt := 0, dirty := [], nt := 58 }) (K Ex.normal { tmps := [(2, SV.bool false), (3, SV.str s), (4, SV.int .i64 e), (5, SV.str s), (6, SV.int .i64 e), (7, SV.ro L.length 1 (listG niC 0 L)), (8, SV.ro L.length 1 (listG niC 0 L)), (9, SV.int .i64 (IntKind.i64.wrap ((↑i : Int) + 1)))], store := [], nxt := 0, dirty := [], nt := 58 })) (False)) (False)) (K (Ex.exit 0) { tmps := [(2, SV.bool false), (3, SV.str s), (4, SV.int .i64 e), (5, SV.str s), (6, SV.int .i64 e), (7, SV.ro L.length 1 (listG niC 0 L)), (8, SV.ro L.length 1 (listG niC 0 L)), (9, SV.int .i64 (↑i : Int))], store := [], nxt := 0, dirty := [], nt := 58 })) := by kernel_rfl
theorem pt_after (s : ByteArray) (e : Int) (L : List Int) (i : Nat) (K : KC) : afterE ptE (keepW ptR 0) ptF ptP 0 K (.exit 0) (ptS s e L i) =
  (Br (s == s) (Br (e == e) (K (SV.bool true) [] []) (K (SV.bool false) [] [])) (K (SV.bool false) [] [])) := by kernel_rfl
theorem sprints_ok (n : Nat) (X : Nat → Ct) : CallOK Tryd.prog 6 [.ro n 7 (ctG X)] [] (.bool true) [] [] :=
  runL_ok ptR (fun _ => 0) c16 2 (fun _ h => nomatch h) fun _ _ K hK => by
    have hK := hK [] fun _ h => nomatch h
    rw [pt_entry]
    refine Br.of (fun _ => hK) fun c => ?_
    have c : n ≤ 500 := by have := of_decide_eq_false c; omega
    have hl := runsS_len (X := X) (n := n)
    refine ⟨X, rfl, X, rfl, X, ⟨rfl, by omega⟩, X, ⟨rfl, by omega⟩, Br.of (fun f => absurd f (by simp)) fun _ => ?_⟩
    generalize runsS X n 0 = L at *
    generalize bytesOf (printR X n) = s at *
    generalize printE X n = e at *
    refine ⟨L.length + 1, loop_up (fun i : Nat => ptS s e L i) L.length (fun _ => True) (fun i hi _ Y hY => ?_) (fun _ Y => ?_) trivial⟩
    · rw [pt_round, wi64_succ hi (by omega)]
      refine Br.of (fun _ => Br.of (fun _ => Br.of (fun _ => Br.of (fun c => absurd c (by simp)) fun _ => hY trivial) fun f => in_f hi f) fun f => in_f hi f) fun f => lt_f hi f
    · rw [pt_round]
      refine Br.of (fun c => lt_t c) fun _ => ?_
      show afterE ptE (keepW ptR 0) ptF ptP 0 K (.exit 0) (ptS s e L L.length)
      rw [pt_after]
      exact Br.of (fun _ => Br.of (fun _ => hK) fun f => absurd f (by simp)) fun f => absurd f (by rw [ba_beq, beq_self_eq_true]; decide)
end Go.Proofs.YtjlmofhokbnloaaDoor

