import Derived.Test.YtjlmofhokbnloaaGreatDoorKh
namespace Go.Proofs.YtjlmofhokbnloaaGreatDoor
open Go.Se
set_option maxRecDepth 100000
theorem one4_nf (b : Bk) (all : Int) (s a c e f : ByteArray) (t : TypeId) (K : KC) : runU 6 y5 3 20 [.ptr 0 0, .str s, .arr 1 0 4 4] [some (.cells bkT (bkC all b)), some (.cells t [.str a, .str c, .str e, .str f])] K =
  (Br (!b.err == 0) (K (SV.int .i64 0) [some (SB.cells 48 [SV.ro b.q.length 2 (qG b.q), SV.int .i64 all, SV.int .i64 b.last, SV.int .i64 b.err, SV.int .i64 b.place]), some (SB.cells t [SV.str a, SV.str c, SV.str e, SV.str f])] []) (Br (s == a) (K (SV.int .i64 0) [some (SB.cells 48 [SV.ro b.q.length 2 (qG b.q), SV.int .i64 all, SV.int .i64 b.last, SV.int .i64 b.err, SV.int .i64 b.place]), some (SB.cells t [SV.str a, SV.str c, SV.str e, SV.str f])] []) (Br (s == c) (K (SV.int .i64 1) [some (SB.cells 48 [SV.ro b.q.length 2 (qG b.q), SV.int .i64 all, SV.int .i64 b.last, SV.int .i64 b.err, SV.int .i64 b.place]), some (SB.cells t [SV.str a, SV.str c, SV.str e, SV.str f])] []) (Br (s == e) (K (SV.int .i64 2) [some (SB.cells 48 [SV.ro b.q.length 2 (qG b.q), SV.int .i64 all, SV.int .i64 b.last, SV.int .i64 b.err, SV.int .i64 b.place]), some (SB.cells t [SV.str a, SV.str c, SV.str e, SV.str f])] []) (Br (s == f) (K (SV.int .i64 3) [some (SB.cells 48 [SV.ro b.q.length 2 (qG b.q), SV.int .i64 all, SV.int .i64 b.last, SV.int .i64 b.err, SV.int .i64 b.place]), some (SB.cells t [SV.str a, SV.str c, SV.str e, SV.str f])] []) (Br (b.err == 0) (K (SV.int .i64 0) [some (SB.cells 48 [SV.ro b.q.length 2 (qG b.q), SV.int .i64 all, SV.int .i64 b.last, SV.int .i64 24, SV.int .i64 b.last]), some (SB.cells t [SV.str a, SV.str c, SV.str e, SV.str f])] [0]) (K (SV.int .i64 0) [some (SB.cells 48 [SV.ro b.q.length 2 (qG b.q), SV.int .i64 all, SV.int .i64 b.last, SV.int .i64 b.err, SV.int .i64 b.place]), some (SB.cells t [SV.str a, SV.str c, SV.str e, SV.str f])] []))))))) := by kernel_rfl
theorem rone1_nf (L : List (List Int)) (pos : Nat) (b : Bk) (s a : ByteArray) (t : TypeId) (K : KC) : runU 3 y6 3 21 [.ptr 0 0, .str s, .arr 1 0 1 1] [some (.cells rbT (rbC L pos b)), some (.cells t [.str a])] K =
  (Br (b.err != 0) (K (SV.int .i64 0) [some (SB.cells 42 [SV.ro L.length 1 (strsG L), SV.int .i64 (↑pos : Int), SV.int .i64 b.last, SV.int .i64 b.err, SV.int .i64 b.place]), some (SB.cells t [SV.str a])] []) (Br (a == s) (K (SV.int .i64 0) [some (SB.cells 42 [SV.ro L.length 1 (strsG L), SV.int .i64 (↑pos : Int), SV.int .i64 b.last, SV.int .i64 b.err, SV.int .i64 b.place]), some (SB.cells t [SV.str a])] []) (Br (b.err == 0) (K (SV.int .i64 0) [some (SB.cells 42 [SV.ro L.length 1 (strsG L), SV.int .i64 (↑pos : Int), SV.int .i64 b.last, SV.int .i64 24, SV.int .i64 b.last]), some (SB.cells t [SV.str a])] [0]) (K (SV.int .i64 0) [some (SB.cells 42 [SV.ro L.length 1 (strsG L), SV.int .i64 (↑pos : Int), SV.int .i64 b.last, SV.int .i64 b.err, SV.int .i64 b.place]), some (SB.cells t [SV.str a])] [])))) := by kernel_rfl
theorem rone2_nf (L : List (List Int)) (pos : Nat) (b : Bk) (s a c : ByteArray) (t : TypeId) (K : KC) : runU 4 y6 3 21 [.ptr 0 0, .str s, .arr 1 0 2 2] [some (.cells rbT (rbC L pos b)), some (.cells t [.str a, .str c])] K =
  (Br (b.err != 0) (K (SV.int .i64 0) [some (SB.cells 42 [SV.ro L.length 1 (strsG L), SV.int .i64 (↑pos : Int), SV.int .i64 b.last, SV.int .i64 b.err, SV.int .i64 b.place]), some (SB.cells t [SV.str a, SV.str c])] []) (Br (a == s) (K (SV.int .i64 0) [some (SB.cells 42 [SV.ro L.length 1 (strsG L), SV.int .i64 (↑pos : Int), SV.int .i64 b.last, SV.int .i64 b.err, SV.int .i64 b.place]), some (SB.cells t [SV.str a, SV.str c])] []) (Br (c == s) (K (SV.int .i64 1) [some (SB.cells 42 [SV.ro L.length 1 (strsG L), SV.int .i64 (↑pos : Int), SV.int .i64 b.last, SV.int .i64 b.err, SV.int .i64 b.place]), some (SB.cells t [SV.str a, SV.str c])] []) (Br (b.err == 0) (K (SV.int .i64 0) [some (SB.cells 42 [SV.ro L.length 1 (strsG L), SV.int .i64 (↑pos : Int), SV.int .i64 b.last, SV.int .i64 24, SV.int .i64 b.last]), some (SB.cells t [SV.str a, SV.str c])] [0]) (K (SV.int .i64 0) [some (SB.cells 42 [SV.ro L.length 1 (strsG L), SV.int .i64 (↑pos : Int), SV.int .i64 b.last, SV.int .i64 b.err, SV.int .i64 b.place]), some (SB.cells t [SV.str a, SV.str c])] []))))) := by kernel_rfl
theorem rone4_nf (L : List (List Int)) (pos : Nat) (b : Bk) (s a c e f : ByteArray) (t : TypeId) (K : KC) : runU 6 y6 3 21 [.ptr 0 0, .str s, .arr 1 0 4 4] [some (.cells rbT (rbC L pos b)), some (.cells t [.str a, .str c, .str e, .str f])] K =
  (Br (b.err != 0) (K (SV.int .i64 0) [some (SB.cells 42 [SV.ro L.length 1 (strsG L), SV.int .i64 (↑pos : Int), SV.int .i64 b.last, SV.int .i64 b.err, SV.int .i64 b.place]), some (SB.cells t [SV.str a, SV.str c, SV.str e, SV.str f])] []) (Br (a == s) (K (SV.int .i64 0) [some (SB.cells 42 [SV.ro L.length 1 (strsG L), SV.int .i64 (↑pos : Int), SV.int .i64 b.last, SV.int .i64 b.err, SV.int .i64 b.place]), some (SB.cells t [SV.str a, SV.str c, SV.str e, SV.str f])] []) (Br (c == s) (K (SV.int .i64 1) [some (SB.cells 42 [SV.ro L.length 1 (strsG L), SV.int .i64 (↑pos : Int), SV.int .i64 b.last, SV.int .i64 b.err, SV.int .i64 b.place]), some (SB.cells t [SV.str a, SV.str c, SV.str e, SV.str f])] []) (Br (e == s) (K (SV.int .i64 2) [some (SB.cells 42 [SV.ro L.length 1 (strsG L), SV.int .i64 (↑pos : Int), SV.int .i64 b.last, SV.int .i64 b.err, SV.int .i64 b.place]), some (SB.cells t [SV.str a, SV.str c, SV.str e, SV.str f])] []) (Br (f == s) (K (SV.int .i64 3) [some (SB.cells 42 [SV.ro L.length 1 (strsG L), SV.int .i64 (↑pos : Int), SV.int .i64 b.last, SV.int .i64 b.err, SV.int .i64 b.place]), some (SB.cells t [SV.str a, SV.str c, SV.str e, SV.str f])] []) (Br (b.err == 0) (K (SV.int .i64 0) [some (SB.cells 42 [SV.ro L.length 1 (strsG L), SV.int .i64 (↑pos : Int), SV.int .i64 b.last, SV.int .i64 24, SV.int .i64 b.last]), some (SB.cells t [SV.str a, SV.str c, SV.str e, SV.str f])] [0]) (K (SV.int .i64 0) [some (SB.cells 42 [SV.ro L.length 1 (strsG L), SV.int .i64 (↑pos : Int), SV.int .i64 b.last, SV.int .i64 b.err, SV.int .i64 b.place]), some (SB.cells t [SV.str a, SV.str c, SV.str e, SV.str f])] []))))))) := by kernel_rfl
def cFew : List (Nat × Keep) := [(0, ⟨[0, 2, 3], [], [], 0, []⟩)]
def opG (kd : Nat → Int) (st : Nat → ByteArray) (lo hi : Nat → Int) : Nat → List SV := fun i => [.int .i64 (kd i), .str (st i), .int .i64 (lo i), .int .i64 (hi i)]
def fwS (n : Nat) (kd : Nat → Int) (st : Nat → ByteArray) (lo hi : Nat → Int) (i : Int) : St := ⟨[(0, .ro n 4 (opG kd st lo hi)), (2, .bool false), (3, .int .i64 i)], [], 0, [], 24⟩
noncomputable abbrev fwE : Env := envL cFew (fun _ => 0) y6 1
noncomputable abbrev fwF : Func := Tryz.f4
theorem fw_entry (n : Nat) (kd : Nat → Int) (st : Nat → ByteArray) (lo hi : Nat → Int) (K : KC) : runL cFew (fun _ => 0) y6 2 4 [.ro n 4 (opG kd st lo hi)] [] K =
  (∃ q_, loopE fwE (keepW cFew 0) fwF [1, 0, 1, 0] 0 0 K q_ { tmps := [(0, SV.ro n 4 (opG kd st lo hi)), (2, SV.bool false), (3, SV.int .i64 0)], store := [], nxt := 0, dirty := [], nt := 24 }) := by kernel_rfl
theorem fw_round (n : Nat) (kd : Nat → Int) (st : Nat → ByteArray) (lo hi : Nat → Int) (i : Nat) (K : Ex → St → Prop) : roundE fwE (keepW cFew 0) fwF [1, 0, 1, 0] 0 K (fwS n kd st lo hi i) =
  (Br (decide ((↑i : Int) < (↑n : Int))) (Br (decide ((↑i : Int) < 100)) (Br (decide (0 ≤ (↑i : Int)) && decide ((↑i : Int) < (↑n : Int))) (Br (decide ((↑(st (↑i : Int).toNat).size : Int) > 50)) (K Ex.ret { tmps := [(0, SV.ro n 4 (opG kd st lo hi)), (2, SV.bool false), (3, SV.int .i64 (↑i : Int))], store := [], nxt := 0, dirty := [], nt := 24 }) (K Ex.normal { tmps := [(0, SV.ro n 4 (opG kd st lo hi)), (2, SV.bool false), (3, SV.int .i64 (IntKind.i64.wrap ((↑i : Int) + 1)))], store := [], nxt := 0, dirty := [], nt := 24 })) (False)) (K (Ex.exit 0) { tmps := [(0, SV.ro n 4 (opG kd st lo hi)), (2, SV.bool false), (3, SV.int .i64 (↑i : Int))], store := [], nxt := 0, dirty := [], nt := 24 })) (K (Ex.exit 0) { tmps := [(0, SV.ro n 4 (opG kd st lo hi)), (2, SV.bool false), (3, SV.int .i64 (↑i : Int))], store := [], nxt := 0, dirty := [], nt := 24 })) := by kernel_rfl
theorem fw_after (n : Nat) (kd : Nat → Int) (st : Nat → ByteArray) (lo hi : Nat → Int) (i : Nat) (K : KC) : afterE fwE (keepW cFew 0) fwF [1, 0, 1, 0] 0 K (.exit 0) (fwS n kd st lo hi i) =
  (K (SV.bool (decide ((↑n : Int) ≤ 100))) [] []) := by kernel_rfl
theorem fw_ret (n : Nat) (kd : Nat → Int) (st : Nat → ByteArray) (lo hi : Nat → Int) (i : Nat) (K : KC) : afterE fwE (keepW cFew 0) fwF [1, 0, 1, 0] 0 K .ret (fwS n kd st lo hi i) =
  (K (SV.bool false) [] []) := by kernel_rfl
theorem one1_law {b : Bk} {all : Int} {s a : ByteArray} {t : TypeId} {K : KC} (hK : ∀ d', (∀ p, p ∈ d' → p ∈ [0]) → K (.int .i64 (oneV b s [a])) [some (.cells bkT (bkC all (oneBk b s [a]))), some (.cells t [.str a])] d') :
    runU 3 y5 3 20 [.ptr 0 0, .str s, .arr 1 0 1 1] [some (.cells bkT (bkC all b)), some (.cells t [.str a])] K := by
  rw [one1_nf]
  cases hc : b.err == 0 with
  | false =>
    obtain ⟨t1, t2⟩ := one_bad (s := s) (ws := [a]) hc
    rw [t1, t2] at hK; exact hK [] sub0
  | true =>
    refine Br.of (fun e => by cases e) fun _ => ?_
    refine Br.of (fun h => ?_) fun h0 => ?_
    · obtain ⟨t1, t2⟩ := one_hit (ws := [a]) (j := 0) hc (by rw [wordI_t h]) (by simp)
      rw [t1, t2] at hK; exact hK [] sub0
    obtain ⟨t1, t2⟩ := one_miss (ws := [a]) hc (by rw [wordI_f h0]; rfl)
    rw [t1, t2] at hK
    exact Br.of (fun _ => hK [0] sub1) fun e => by cases e
theorem one2_law {b : Bk} {all : Int} {s a c : ByteArray} {t : TypeId} {K : KC} (hK : ∀ d', (∀ p, p ∈ d' → p ∈ [0]) → K (.int .i64 (oneV b s [a, c])) [some (.cells bkT (bkC all (oneBk b s [a, c]))), some (.cells t [.str a, .str c])] d') :
    runU 4 y5 3 20 [.ptr 0 0, .str s, .arr 1 0 2 2] [some (.cells bkT (bkC all b)), some (.cells t [.str a, .str c])] K := by
  rw [one2_nf]
  cases hc : b.err == 0 with
  | false =>
    obtain ⟨t1, t2⟩ := one_bad (s := s) (ws := [a, c]) hc
    rw [t1, t2] at hK; exact hK [] sub0
  | true =>
    refine Br.of (fun e => by cases e) fun _ => ?_
    refine Br.of (fun h => ?_) fun h0 => ?_
    · obtain ⟨t1, t2⟩ := one_hit (ws := [a, c]) (j := 0) hc (by rw [wordI_t h]) (by simp)
      rw [t1, t2] at hK; exact hK [] sub0
    refine Br.of (fun h => ?_) fun h1 => ?_
    · obtain ⟨t1, t2⟩ := one_hit (ws := [a, c]) (j := 1) hc (by rw [wordI_f h0, wordI_t h]) (by simp)
      rw [t1, t2] at hK; exact hK [] sub0
    obtain ⟨t1, t2⟩ := one_miss (ws := [a, c]) hc (by rw [wordI_f h0, wordI_f h1]; rfl)
    rw [t1, t2] at hK
    exact Br.of (fun _ => hK [0] sub1) fun e => by cases e
theorem one4_law {b : Bk} {all : Int} {s a c e f : ByteArray} {t : TypeId} {K : KC} (hK : ∀ d', (∀ p, p ∈ d' → p ∈ [0]) → K (.int .i64 (oneV b s [a, c, e, f])) [some (.cells bkT (bkC all (oneBk b s [a, c, e, f]))), some (.cells t [.str a, .str c, .str e, .str f])] d') :
    runU 6 y5 3 20 [.ptr 0 0, .str s, .arr 1 0 4 4] [some (.cells bkT (bkC all b)), some (.cells t [.str a, .str c, .str e, .str f])] K := by
  rw [one4_nf]
  cases hc : b.err == 0 with
  | false =>
    obtain ⟨t1, t2⟩ := one_bad (s := s) (ws := [a, c, e, f]) hc
    rw [t1, t2] at hK; exact hK [] sub0
  | true =>
    refine Br.of (fun e => by cases e) fun _ => ?_
    refine Br.of (fun h => ?_) fun h0 => ?_
    · obtain ⟨t1, t2⟩ := one_hit (ws := [a, c, e, f]) (j := 0) hc (by rw [wordI_t h]) (by simp)
      rw [t1, t2] at hK; exact hK [] sub0
    refine Br.of (fun h => ?_) fun h1 => ?_
    · obtain ⟨t1, t2⟩ := one_hit (ws := [a, c, e, f]) (j := 1) hc (by rw [wordI_f h0, wordI_t h]) (by simp)
      rw [t1, t2] at hK; exact hK [] sub0
    refine Br.of (fun h => ?_) fun h2 => ?_
    · obtain ⟨t1, t2⟩ := one_hit (ws := [a, c, e, f]) (j := 2) hc (by rw [wordI_f h0, wordI_f h1, wordI_t h]) (by simp)
      rw [t1, t2] at hK; exact hK [] sub0
    refine Br.of (fun h => ?_) fun h3 => ?_
    · obtain ⟨t1, t2⟩ := one_hit (ws := [a, c, e, f]) (j := 3) hc (by rw [wordI_f h0, wordI_f h1, wordI_f h2, wordI_t h]) (by simp)
      rw [t1, t2] at hK; exact hK [] sub0
    obtain ⟨t1, t2⟩ := one_miss (ws := [a, c, e, f]) hc (by rw [wordI_f h0, wordI_f h1, wordI_f h2, wordI_f h3]; rfl)
    rw [t1, t2] at hK
    exact Br.of (fun _ => hK [0] sub1) fun e => by cases e
theorem rone1_law {L : List (List Int)} {pos : Nat} {b : Bk} {s a : ByteArray} {t : TypeId} {K : KC} (hK : ∀ d', (∀ p, p ∈ d' → p ∈ [0]) → K (.int .i64 (oneV b s [a])) [some (.cells rbT (rbC L pos (oneBk b s [a]))), some (.cells t [.str a])] d') :
    runU 3 y6 3 21 [.ptr 0 0, .str s, .arr 1 0 1 1] [some (.cells rbT (rbC L pos b)), some (.cells t [.str a])] K := by
  rw [rone1_nf]
  cases hc : b.err == 0 with
  | false =>
    obtain ⟨t1, t2⟩ := one_bad (s := s) (ws := [a]) hc
    rw [show (b.err != 0) = true by rw [bne, hc]; rfl]
    rw [t1, t2] at hK; exact hK [] sub0
  | true =>
    rw [show (b.err != 0) = false by rw [bne, hc]; rfl]
    rw [ba_comm a s]
    refine Br.of (fun e => by cases e) fun _ => ?_
    refine Br.of (fun h => ?_) fun h0 => ?_
    · obtain ⟨t1, t2⟩ := one_hit (ws := [a]) (j := 0) hc (by rw [wordI_t h]) (by simp)
      rw [t1, t2] at hK; exact hK [] sub0
    obtain ⟨t1, t2⟩ := one_miss (ws := [a]) hc (by rw [wordI_f h0]; rfl)
    rw [t1, t2] at hK
    exact Br.of (fun _ => hK [0] sub1) fun e => by cases e
theorem rone2_law {L : List (List Int)} {pos : Nat} {b : Bk} {s a c : ByteArray} {t : TypeId} {K : KC} (hK : ∀ d', (∀ p, p ∈ d' → p ∈ [0]) → K (.int .i64 (oneV b s [a, c])) [some (.cells rbT (rbC L pos (oneBk b s [a, c]))), some (.cells t [.str a, .str c])] d') :
    runU 4 y6 3 21 [.ptr 0 0, .str s, .arr 1 0 2 2] [some (.cells rbT (rbC L pos b)), some (.cells t [.str a, .str c])] K := by
  rw [rone2_nf]
  cases hc : b.err == 0 with
  | false =>
    obtain ⟨t1, t2⟩ := one_bad (s := s) (ws := [a, c]) hc
    rw [show (b.err != 0) = true by rw [bne, hc]; rfl]
    rw [t1, t2] at hK; exact hK [] sub0
  | true =>
    rw [show (b.err != 0) = false by rw [bne, hc]; rfl]
    rw [ba_comm a s, ba_comm c s]
    refine Br.of (fun e => by cases e) fun _ => ?_
    refine Br.of (fun h => ?_) fun h0 => ?_
    · obtain ⟨t1, t2⟩ := one_hit (ws := [a, c]) (j := 0) hc (by rw [wordI_t h]) (by simp)
      rw [t1, t2] at hK; exact hK [] sub0
    refine Br.of (fun h => ?_) fun h1 => ?_
    · obtain ⟨t1, t2⟩ := one_hit (ws := [a, c]) (j := 1) hc (by rw [wordI_f h0, wordI_t h]) (by simp)
      rw [t1, t2] at hK; exact hK [] sub0
    obtain ⟨t1, t2⟩ := one_miss (ws := [a, c]) hc (by rw [wordI_f h0, wordI_f h1]; rfl)
    rw [t1, t2] at hK
    exact Br.of (fun _ => hK [0] sub1) fun e => by cases e
theorem rone4_law {L : List (List Int)} {pos : Nat} {b : Bk} {s a c e f : ByteArray} {t : TypeId} {K : KC} (hK : ∀ d', (∀ p, p ∈ d' → p ∈ [0]) → K (.int .i64 (oneV b s [a, c, e, f])) [some (.cells rbT (rbC L pos (oneBk b s [a, c, e, f]))), some (.cells t [.str a, .str c, .str e, .str f])] d') :
    runU 6 y6 3 21 [.ptr 0 0, .str s, .arr 1 0 4 4] [some (.cells rbT (rbC L pos b)), some (.cells t [.str a, .str c, .str e, .str f])] K := by
  rw [rone4_nf]
  cases hc : b.err == 0 with
  | false =>
    obtain ⟨t1, t2⟩ := one_bad (s := s) (ws := [a, c, e, f]) hc
    rw [show (b.err != 0) = true by rw [bne, hc]; rfl]
    rw [t1, t2] at hK; exact hK [] sub0
  | true =>
    rw [show (b.err != 0) = false by rw [bne, hc]; rfl]
    rw [ba_comm a s, ba_comm c s, ba_comm e s, ba_comm f s]
    refine Br.of (fun e => by cases e) fun _ => ?_
    refine Br.of (fun h => ?_) fun h0 => ?_
    · obtain ⟨t1, t2⟩ := one_hit (ws := [a, c, e, f]) (j := 0) hc (by rw [wordI_t h]) (by simp)
      rw [t1, t2] at hK; exact hK [] sub0
    refine Br.of (fun h => ?_) fun h1 => ?_
    · obtain ⟨t1, t2⟩ := one_hit (ws := [a, c, e, f]) (j := 1) hc (by rw [wordI_f h0, wordI_t h]) (by simp)
      rw [t1, t2] at hK; exact hK [] sub0
    refine Br.of (fun h => ?_) fun h2 => ?_
    · obtain ⟨t1, t2⟩ := one_hit (ws := [a, c, e, f]) (j := 2) hc (by rw [wordI_f h0, wordI_f h1, wordI_t h]) (by simp)
      rw [t1, t2] at hK; exact hK [] sub0
    refine Br.of (fun h => ?_) fun h3 => ?_
    · obtain ⟨t1, t2⟩ := one_hit (ws := [a, c, e, f]) (j := 3) hc (by rw [wordI_f h0, wordI_f h1, wordI_f h2, wordI_t h]) (by simp)
      rw [t1, t2] at hK; exact hK [] sub0
    obtain ⟨t1, t2⟩ := one_miss (ws := [a, c, e, f]) hc (by rw [wordI_f h0, wordI_f h1, wordI_f h2, wordI_f h3]; rfl)
    rw [t1, t2] at hK
    exact Br.of (fun _ => hK [0] sub1) fun e => by cases e
def cOn : List SV → List (Option SB) → KC → Prop
  | [.ptr 0 0, .str s, .arr 1 0 1 1], [some (.cells 48 cs), some (.cells t [.str a])], K => ∃ (b : Bk) (all : Int), cs = bkC all b ∧ K (.int .i64 (oneV b s [a])) [some (.cells 48 (bkC all (oneBk b s [a]))), some (.cells t [.str a])] [0]
  | [.ptr 0 0, .str s, .arr 1 0 2 2], [some (.cells 48 cs), some (.cells t [.str a, .str c])], K => ∃ (b : Bk) (all : Int), cs = bkC all b ∧ K (.int .i64 (oneV b s [a, c])) [some (.cells 48 (bkC all (oneBk b s [a, c]))), some (.cells t [.str a, .str c])] [0]
  | [.ptr 0 0, .str s, .arr 1 0 4 4], [some (.cells 48 cs), some (.cells t [.str a, .str c, .str e, .str f])], K => ∃ (b : Bk) (all : Int), cs = bkC all b ∧ K (.int .i64 (oneV b s [a, c, e, f])) [some (.cells 48 (bkC all (oneBk b s [a, c, e, f]))), some (.cells t [.str a, .str c, .str e, .str f])] [0]
  | _, _, _ => False
theorem on_sat (xs : List SV) (σ : List (Option SB)) : Sat Tryz.prog 20 xs σ (cOn xs σ) := by
  intro K hK
  unfold cOn at hK
  split at hK
  case h_4 => exact hK.elim
  all_goals obtain ⟨b, all, rfl, hK⟩ := hK
  · exact sat_D (B := y5) (n := 3) (u := fun _ => 3) (Φ := fun K => K _ _ [0]) [0] one_lt (fun K hK => one1_law fun d' hd => ⟨hd, hK⟩) K hK
  · exact sat_D (B := y5) (n := 3) (u := fun _ => 4) (Φ := fun K => K _ _ [0]) [0] one_lt (fun K hK => one2_law fun d' hd => ⟨hd, hK⟩) K hK
  · exact sat_D (B := y5) (n := 3) (u := fun _ => 6) (Φ := fun K => K _ _ [0]) [0] one_lt (fun K hK => one4_law fun d' hd => ⟨hd, hK⟩) K hK
def cROn : List SV → List (Option SB) → KC → Prop
  | [.ptr 0 0, .str s, .arr 1 0 1 1], [some (.cells 42 cs), some (.cells t [.str a])], K => ∃ (L : List (List Int)) (pos : Nat) (b : Bk), cs = rbC L pos b ∧ K (.int .i64 (oneV b s [a])) [some (.cells 42 (rbC L pos (oneBk b s [a]))), some (.cells t [.str a])] [0]
  | [.ptr 0 0, .str s, .arr 1 0 2 2], [some (.cells 42 cs), some (.cells t [.str a, .str c])], K => ∃ (L : List (List Int)) (pos : Nat) (b : Bk), cs = rbC L pos b ∧ K (.int .i64 (oneV b s [a, c])) [some (.cells 42 (rbC L pos (oneBk b s [a, c]))), some (.cells t [.str a, .str c])] [0]
  | [.ptr 0 0, .str s, .arr 1 0 4 4], [some (.cells 42 cs), some (.cells t [.str a, .str c, .str e, .str f])], K => ∃ (L : List (List Int)) (pos : Nat) (b : Bk), cs = rbC L pos b ∧ K (.int .i64 (oneV b s [a, c, e, f])) [some (.cells 42 (rbC L pos (oneBk b s [a, c, e, f]))), some (.cells t [.str a, .str c, .str e, .str f])] [0]
  | _, _, _ => False
theorem ron_sat (xs : List SV) (σ : List (Option SB)) : Sat Tryz.prog 21 xs σ (cROn xs σ) := by
  intro K hK
  unfold cROn at hK
  split at hK
  case h_4 => exact hK.elim
  all_goals obtain ⟨L, pos, b, rfl, hK⟩ := hK
  · exact sat_D (B := y6) (n := 3) (u := fun _ => 3) (Φ := fun K => K _ _ [0]) [0] one_lt (fun K hK => rone1_law fun d' hd => ⟨hd, hK⟩) K hK
  · exact sat_D (B := y6) (n := 3) (u := fun _ => 4) (Φ := fun K => K _ _ [0]) [0] one_lt (fun K hK => rone2_law fun d' hd => ⟨hd, hK⟩) K hK
  · exact sat_D (B := y6) (n := 3) (u := fun _ => 6) (Φ := fun K => K _ _ [0]) [0] one_lt (fun K hK => rone4_law fun d' hd => ⟨hd, hK⟩) K hK
theorem fw_law (n : Nat) (kd : Nat → Int) (st : Nat → ByteArray) (lo hi : Nat → Int) (K : KC) (hK : ∀ v, (v = true → n ≤ 100) → K (.bool v) [] []) : runL cFew (fun _ => 0) y6 2 4 [.ro n 4 (opG kd st lo hi)] [] K := by
  rw [fw_entry]
  refine ⟨101, loop_m (fun i : Nat => fwS n kd st lo hi i) (fun i => 100 - i) (fun i => i ≤ 100 ∧ i ≤ n) ?_ 101 0 ⟨Nat.zero_le _, Nat.zero_le _⟩ (by omega)⟩
  rintro i ⟨h1, h2⟩ X hX
  have stop : afterE fwE (keepW cFew 0) fwF [1, 0, 1, 0] 0 K (.exit 0) (fwS n kd st lo hi i) := by
    rw [fw_after]
    exact hK _ fun h => by have := of_decide_eq_true h; omega
  rw [fw_round]
  refine Br.of (fun c => Br.of (fun d => Br.of (fun _ => Br.of (fun _ => ?_) fun _ => ?_) fun f => ?_) fun _ => stop) fun _ => stop
  · show afterE fwE (keepW cFew 0) fwF [1, 0, 1, 0] 0 K .ret (fwS n kd st lo hi i)
    rw [fw_ret]
    exact hK _ fun h => nomatch h
  · have c := of_decide_eq_true c
    have d := of_decide_eq_true d
    rw [show IntKind.i64.wrap ((i : Int) + 1) = ((i + 1 : Nat) : Int) by rw [wi64]; omega]
    exact hX (i + 1) ⟨by omega, by omega⟩ (by omega)
  · have c := of_decide_eq_true c
    exact in_f (by omega) f
def cFw : List SV → List (Option SB) → KC → Prop
  | xs, [], K => ∃ (n : Nat) (kd : Nat → Int) (st : Nat → ByteArray) (lo hi : Nat → Int), xs = [.ro n 4 (opG kd st lo hi)] ∧ ∀ v, (v = true → n ≤ 100) → K (.bool v) [] []
  | _, _ :: _, _ => False
theorem fw_sat (xs : List SV) (σ : List (Option SB)) : Sat Tryz.prog 4 xs σ (cFw xs σ) := by
  intro K hK
  cases σ with
  | nil =>
    obtain ⟨n, kd, st, lo, hi, rfl, hK⟩ := hK
    exact calls_sat (env := tab.env y6 (fun _ => 0) (fun _ => false)) ⟨tab.htt, y6.ok⟩ tab.mixed (fun n => keepW_weaker n cFew) tab.hft 2 _ _ _ K (fw_law n kd st lo hi K hK)
  | cons a l => exact hK.elim
theorem sm0_nf (K : KC) : runU 2 y6 2 7 [.nils, .nils] [] K =
  (K (SV.bool true) [] []) := by kernel_rfl
def cSame2 : List SV → List (Option SB) → KC → Prop
  | [.nils, .nils], [], K => K (.bool true) [] []
  | [.ro n 1 g, .ro n' 1 g'], [], K => ∃ p : List (List Int), [SV.ro n 1 g, .ro n' 1 g'] = [.ro p.length 1 (strsG p), .ro p.length 1 (strsG p)] ∧ K (.bool true) [] []
  | _, _, _ => False
theorem same2_sat (xs : List SV) (σ : List (Option SB)) : Sat Tryz.prog 7 xs σ (cSame2 xs σ) := by
  intro K hK
  unfold cSame2 at hK
  split at hK
  case h_3 => exact hK.elim
  · exact ⟨_, _, _, hK, runU_ok 2 y6 2 fun _ _ K hK => by rw [sm0_nf]; exact hK⟩
  · obtain ⟨p, e, hK⟩ := hK
    rw [e]
    exact ⟨_, _, _, hK, same_ok p⟩
noncomputable def y8 : Know Tryz.prog := (((((y7).add 20 cOn on_sat).add 21 cROn ron_sat).add 4 cFw fw_sat).add 7 cSame2 same2_sat).add 25 (one cAwake36) (one_sat fun xs σ v σ' d h => by
    unfold cAwake36 at h; split at h <;> cases h; first | exact awake_ok | exact awake_ok _ | exact awake_ok _ _ | exact awake_ok _ _ _ | exact awake_ok _ _ _ _ | exact awake_ok _ _ _ _ _ | exact awake_ok _ _ _ _ _ _ | exact awake_ok _ _ _ _ _ _ _ | exact awake_ok _ _ _ _ _ _ _ _ | exact awake_ok _ _ _ _ _ _ _ _ _ | exact awake_ok _ _ _ _ _ _ _ _ _ _ | exact awake_ok _ _ _ _ _ _ _ _ _ _ _)
end Go.Proofs.YtjlmofhokbnloaaGreatDoor

namespace Go.Proofs.YtjlmofhokbnloaaGreatDoor
open Go.Se
set_option maxRecDepth 100000
def wbR : List (Nat × Keep) := [(0, ⟨[1, 4, 5, 6, 7], [0, 1], [0, 1, 2, 3], 2, []⟩)]
def wbS (n : Nat) (kd : Nat → Int) (st : Nat → ByteArray) (lo hi : Nat → Int) (all : Int) (L : List (List Int)) (pos : Nat) (b : Bk) (i : Int) : St :=
  ⟨[(1, .ro n 4 (opG kd st lo hi)), (4, .bool false), (5, .ptr 0 0), (6, .ptr 1 0), (7, .int .i64 i)], [(0, some (.cells bkT (bkC all b))), (1, some (.cells rbT (rbC L pos b)))], 2, [0, 1, 2, 3], 155⟩
noncomputable abbrev wbE : Env := envL wbR (fun _ => 0) y8 2
noncomputable abbrev wbF : Func := Tryz.f3
abbrev wbP : List Nat := [1, 1, 1, 1, 1, 0, 1, 0]
theorem wb_entry (s : ByteArray) (n : Nat) (kd : Nat → Int) (st : Nat → ByteArray) (lo hi : Nat → Int) (K : KC) : runL wbR (fun _ => 0) y8 3 3 [.str s, .ro n 4 (opG kd st lo hi)] [] K =
  (Br (decide ((↑s.size : Int) > 5000)) (K (SV.bool true) [] []) (∃ (e399 : Nat), ∃ (e398 : Nat → Int), ∃ (e397 : Nat → ByteArray), ∃ (e396 : Nat → Int), ∃ (e395 : Nat → Int), ([SV.ro n 4 (opG kd st lo hi)] = [SV.ro e399 4 (opG e398 e397 e396 e395)]) ∧ (∀ (v393 : Bool), ∀ (_ : v393 = true → e399 ≤ 100), Br (!v393) (K (SV.bool true) [] []) (Br (decide (s.size ≤ 1048576)) (Br (decide (s.size ≤ 1048576)) (∃ q_, loopE wbE (keepW wbR 0) wbF wbP 0 0 K q_ { tmps := [(1, SV.ro n 4 (opG kd st lo hi)), (4, SV.bool false), (5, SV.ptr 0 0), (6, SV.ptr 1 0), (7, SV.int .i64 0)], store := [(0, some (SB.cells 48 [SV.ro (openB (listOf s)).q.length 2 (qG (openB (listOf s)).q), SV.int .i64 (allB (listOf s)), SV.int .i64 (openB (listOf s)).last, SV.int .i64 (openB (listOf s)).err, SV.int .i64 (openB (listOf s)).place])), (1, some (SB.cells 42 [SV.ro (linesL (listOf s)).length 1 (strsG (linesL (listOf s))), SV.int .i64 0, SV.int .i64 (openB (listOf s)).last, SV.int .i64 (openB (listOf s)).err, SV.int .i64 (openB (listOf s)).place]))], nxt := 2, dirty := [0, 1, 2, 3], nt := 155 }) (False)) (False))))) := by kernel_rfl
theorem wb_round (n : Nat) (kd : Nat → Int) (st : Nat → ByteArray) (lo hi : Nat → Int) (all : Int) (L : List (List Int)) (pos : Nat) (b : Bk) (i : Nat) (K : Ex → St → Prop) : roundE wbE (keepW wbR 0) wbF wbP 0 K (wbS n kd st lo hi all L pos b i) =
  (Br (decide ((↑i : Int) < (↑n : Int))) (Br (decide (0 ≤ (↑i : Int)) && decide ((↑i : Int) < (↑n : Int))) (Br ((IntKind.i64.wrap ((kd (↑i : Int).toNat).tmod 7 + 7)).tmod 7 == 0) (∃ (e397 : Bk), ∃ (e396 : Int), ([SV.ro b.q.length 2 (qG b.q), SV.int .i64 all, SV.int .i64 b.last, SV.int .i64 b.err, SV.int .i64 b.place] = [SV.ro e397.q.length 2 (qG e397.q), SV.int .i64 e396, SV.int .i64 e397.last, SV.int .i64 e397.err, SV.int .i64 e397.place] ∧ okBk e397 ∧ 0 ≤ e396 ∧ e396 ≤ 1048577) ∧ (Br (takeN e397 (st (↑i : Int).toNat) (lo (↑i : Int).toNat) (hi (↑i : Int).toNat)) (∃ (e393 : List (List Int)), ∃ (e392 : Nat), ∃ (e391 : Bk), ([SV.ro L.length 1 (strsG L), SV.int .i64 (↑pos : Int), SV.int .i64 b.last, SV.int .i64 b.err, SV.int .i64 b.place] = [SV.ro e393.length 1 (strsG e393), SV.int .i64 (↑e392 : Int), SV.int .i64 e391.last, SV.int .i64 e391.err, SV.int .i64 e391.place] ∧ okLn e393 ∧ RB e393 e392 e391) ∧ (∀ (pos'389 : Nat), ∀ (_ : RB e393 pos'389 (takeB (↑e393.length : Int) e391 (st (↑i : Int).toNat) (lo (↑i : Int).toNat) (hi (↑i : Int).toNat))), Br (takeN e391 (st (↑i : Int).toNat) (lo (↑i : Int).toNat) (hi (↑i : Int).toNat)) (K Ex.normal { tmps := [(1, SV.ro n 4 (opG kd st lo hi)), (4, SV.bool false), (5, SV.ptr 0 0), (6, SV.ptr 1 0), (7, SV.int .i64 (IntKind.i64.wrap ((↑i : Int) + 1)))], store := [(0, some (SB.cells 48 [SV.ro (takeB e396 e397 (st (↑i : Int).toNat) (lo (↑i : Int).toNat) (hi (↑i : Int).toNat)).q.length 2 (qG (takeB e396 e397 (st (↑i : Int).toNat) (lo (↑i : Int).toNat) (hi (↑i : Int).toNat)).q), SV.int .i64 e396, SV.int .i64 (takeB e396 e397 (st (↑i : Int).toNat) (lo (↑i : Int).toNat) (hi (↑i : Int).toNat)).last, SV.int .i64 (takeB e396 e397 (st (↑i : Int).toNat) (lo (↑i : Int).toNat) (hi (↑i : Int).toNat)).err, SV.int .i64 (takeB e396 e397 (st (↑i : Int).toNat) (lo (↑i : Int).toNat) (hi (↑i : Int).toNat)).place])), (1, some (SB.cells 42 [SV.ro e393.length 1 (strsG e393), SV.int .i64 (↑pos'389 : Int), SV.int .i64 (takeB (↑e393.length : Int) e391 (st (↑i : Int).toNat) (lo (↑i : Int).toNat) (hi (↑i : Int).toNat)).last, SV.int .i64 (takeB (↑e393.length : Int) e391 (st (↑i : Int).toNat) (lo (↑i : Int).toNat) (hi (↑i : Int).toNat)).err, SV.int .i64 (takeB (↑e393.length : Int) e391 (st (↑i : Int).toNat) (lo (↑i : Int).toNat) (hi (↑i : Int).toNat)).place]))], nxt := 2, dirty := [0, 1, 2, 3], nt := 155 }) (False))) (∃ (e393 : List (List Int)), ∃ (e392 : Nat), ∃ (e391 : Bk), ([SV.ro L.length 1 (strsG L), SV.int .i64 (↑pos : Int), SV.int .i64 b.last, SV.int .i64 b.err, SV.int .i64 b.place] = [SV.ro e393.length 1 (strsG e393), SV.int .i64 (↑e392 : Int), SV.int .i64 e391.last, SV.int .i64 e391.err, SV.int .i64 e391.place] ∧ okLn e393 ∧ RB e393 e392 e391) ∧ (∀ (pos'389 : Nat), ∀ (_ : RB e393 pos'389 (takeB (↑e393.length : Int) e391 (st (↑i : Int).toNat) (lo (↑i : Int).toNat) (hi (↑i : Int).toNat))), Br (takeN e391 (st (↑i : Int).toNat) (lo (↑i : Int).toNat) (hi (↑i : Int).toNat)) (False) (∃ (e386 : List (List Int)), ([SV.ro (takeL e397).length 1 (strsG (takeL e397)), SV.ro (takeL e391).length 1 (strsG (takeL e391))] = [SV.ro e386.length 1 (strsG e386), SV.ro e386.length 1 (strsG e386)]) ∧ (K Ex.normal { tmps := [(1, SV.ro n 4 (opG kd st lo hi)), (4, SV.bool false), (5, SV.ptr 0 0), (6, SV.ptr 1 0), (7, SV.int .i64 (IntKind.i64.wrap ((↑i : Int) + 1)))], store := [(0, some (SB.cells 48 [SV.ro (takeB e396 e397 (st (↑i : Int).toNat) (lo (↑i : Int).toNat) (hi (↑i : Int).toNat)).q.length 2 (qG (takeB e396 e397 (st (↑i : Int).toNat) (lo (↑i : Int).toNat) (hi (↑i : Int).toNat)).q), SV.int .i64 e396, SV.int .i64 (takeB e396 e397 (st (↑i : Int).toNat) (lo (↑i : Int).toNat) (hi (↑i : Int).toNat)).last, SV.int .i64 (takeB e396 e397 (st (↑i : Int).toNat) (lo (↑i : Int).toNat) (hi (↑i : Int).toNat)).err, SV.int .i64 (takeB e396 e397 (st (↑i : Int).toNat) (lo (↑i : Int).toNat) (hi (↑i : Int).toNat)).place])), (1, some (SB.cells 42 [SV.ro e393.length 1 (strsG e393), SV.int .i64 (↑pos'389 : Int), SV.int .i64 (takeB (↑e393.length : Int) e391 (st (↑i : Int).toNat) (lo (↑i : Int).toNat) (hi (↑i : Int).toNat)).last, SV.int .i64 (takeB (↑e393.length : Int) e391 (st (↑i : Int).toNat) (lo (↑i : Int).toNat) (hi (↑i : Int).toNat)).err, SV.int .i64 (takeB (↑e393.length : Int) e391 (st (↑i : Int).toNat) (lo (↑i : Int).toNat) (hi (↑i : Int).toNat)).place]))], nxt := 2, dirty := [0, 1, 2, 3], nt := 155 })))))) (Br ((IntKind.i64.wrap ((kd (↑i : Int).toNat).tmod 7 + 7)).tmod 7 == 1) (∃ (e396 : Bk), ∃ (e395 : Int), ([SV.ro b.q.length 2 (qG b.q), SV.int .i64 all, SV.int .i64 b.last, SV.int .i64 b.err, SV.int .i64 b.place] = [SV.ro e396.q.length 2 (qG e396.q), SV.int .i64 e395, SV.int .i64 e396.last, SV.int .i64 e396.err, SV.int .i64 e396.place] ∧ okBk e396) ∧ (∃ (e393 : List (List Int)), ∃ (e392 : Nat), ∃ (e391 : Bk), ([SV.ro L.length 1 (strsG L), SV.int .i64 (↑pos : Int), SV.int .i64 b.last, SV.int .i64 b.err, SV.int .i64 b.place] = [SV.ro e393.length 1 (strsG e393), SV.int .i64 (↑e392 : Int), SV.int .i64 e391.last, SV.int .i64 e391.err, SV.int .i64 e391.place] ∧ okLn e393 ∧ RB e393 e392 e391) ∧ (∀ (pos'389 : Nat), ∀ (_ : RB e393 pos'389 e391), Br (!nextV e396 (st (↑i : Int).toNat) == nextV e391 (st (↑i : Int).toNat)) (K Ex.ret { tmps := [(1, SV.ro n 4 (opG kd st lo hi)), (4, SV.bool false), (5, SV.ptr 0 0), (6, SV.ptr 1 0), (7, SV.int .i64 (↑i : Int))], store := [(0, some (SB.cells 48 [SV.ro e396.q.length 2 (qG e396.q), SV.int .i64 e395, SV.int .i64 e396.last, SV.int .i64 e396.err, SV.int .i64 e396.place])), (1, some (SB.cells 42 [SV.ro e393.length 1 (strsG e393), SV.int .i64 (↑pos'389 : Int), SV.int .i64 e391.last, SV.int .i64 e391.err, SV.int .i64 e391.place]))], nxt := 2, dirty := [0, 1, 2, 3], nt := 155 }) (K Ex.normal { tmps := [(1, SV.ro n 4 (opG kd st lo hi)), (4, SV.bool false), (5, SV.ptr 0 0), (6, SV.ptr 1 0), (7, SV.int .i64 (IntKind.i64.wrap ((↑i : Int) + 1)))], store := [(0, some (SB.cells 48 [SV.ro e396.q.length 2 (qG e396.q), SV.int .i64 e395, SV.int .i64 e396.last, SV.int .i64 e396.err, SV.int .i64 e396.place])), (1, some (SB.cells 42 [SV.ro e393.length 1 (strsG e393), SV.int .i64 (↑pos'389 : Int), SV.int .i64 e391.last, SV.int .i64 e391.err, SV.int .i64 e391.place]))], nxt := 2, dirty := [0, 1, 2, 3], nt := 155 })))) (Br ((IntKind.i64.wrap ((kd (↑i : Int).toNat).tmod 7 + 7)).tmod 7 == 2) (∃ (e395 : Bk), ∃ (e394 : Int), ([SV.ro b.q.length 2 (qG b.q), SV.int .i64 all, SV.int .i64 b.last, SV.int .i64 b.err, SV.int .i64 b.place] = [SV.ro e395.q.length 2 (qG e395.q), SV.int .i64 e394, SV.int .i64 e395.last, SV.int .i64 e395.err, SV.int .i64 e395.place]) ∧ (∃ (e392 : List (List Int)), ∃ (e391 : Nat), ∃ (e390 : Bk), ([SV.ro L.length 1 (strsG L), SV.int .i64 (↑pos : Int), SV.int .i64 b.last, SV.int .i64 b.err, SV.int .i64 b.place] = [SV.ro e392.length 1 (strsG e392), SV.int .i64 (↑e391 : Int), SV.int .i64 e390.last, SV.int .i64 e390.err, SV.int .i64 e390.place]) ∧ (Br (numV e395 (listOf (st (↑i : Int).toNat)) != numV e390 (listOf (st (↑i : Int).toNat))) (K Ex.ret { tmps := [(1, SV.ro n 4 (opG kd st lo hi)), (4, SV.bool false), (5, SV.ptr 0 0), (6, SV.ptr 1 0), (7, SV.int .i64 (↑i : Int))], store := [(0, some (SB.cells 48 [SV.ro (numBk e395 (listOf (st (↑i : Int).toNat))).q.length 2 (qG (numBk e395 (listOf (st (↑i : Int).toNat))).q), SV.int .i64 e394, SV.int .i64 (numBk e395 (listOf (st (↑i : Int).toNat))).last, SV.int .i64 (numBk e395 (listOf (st (↑i : Int).toNat))).err, SV.int .i64 (numBk e395 (listOf (st (↑i : Int).toNat))).place])), (1, some (SB.cells 42 [SV.ro e392.length 1 (strsG e392), SV.int .i64 (↑e391 : Int), SV.int .i64 (numBk e390 (listOf (st (↑i : Int).toNat))).last, SV.int .i64 (numBk e390 (listOf (st (↑i : Int).toNat))).err, SV.int .i64 (numBk e390 (listOf (st (↑i : Int).toNat))).place]))], nxt := 2, dirty := [0, 1, 2, 3], nt := 155 }) (K Ex.normal { tmps := [(1, SV.ro n 4 (opG kd st lo hi)), (4, SV.bool false), (5, SV.ptr 0 0), (6, SV.ptr 1 0), (7, SV.int .i64 (IntKind.i64.wrap ((↑i : Int) + 1)))], store := [(0, some (SB.cells 48 [SV.ro (numBk e395 (listOf (st (↑i : Int).toNat))).q.length 2 (qG (numBk e395 (listOf (st (↑i : Int).toNat))).q), SV.int .i64 e394, SV.int .i64 (numBk e395 (listOf (st (↑i : Int).toNat))).last, SV.int .i64 (numBk e395 (listOf (st (↑i : Int).toNat))).err, SV.int .i64 (numBk e395 (listOf (st (↑i : Int).toNat))).place])), (1, some (SB.cells 42 [SV.ro e392.length 1 (strsG e392), SV.int .i64 (↑e391 : Int), SV.int .i64 (numBk e390 (listOf (st (↑i : Int).toNat))).last, SV.int .i64 (numBk e390 (listOf (st (↑i : Int).toNat))).err, SV.int .i64 (numBk e390 (listOf (st (↑i : Int).toNat))).place]))], nxt := 2, dirty := [0, 1, 2, 3], nt := 155 })))) (Br ((IntKind.i64.wrap ((kd (↑i : Int).toNat).tmod 7 + 7)).tmod 7 == 3) (∃ (e394 : Bk), ∃ (e393 : Int), ([SV.ro b.q.length 2 (qG b.q), SV.int .i64 all, SV.int .i64 b.last, SV.int .i64 b.err, SV.int .i64 b.place] = [SV.ro e394.q.length 2 (qG e394.q), SV.int .i64 e393, SV.int .i64 e394.last, SV.int .i64 e394.err, SV.int .i64 e394.place]) ∧ (∃ (e391 : List (List Int)), ∃ (e390 : Nat), ∃ (e389 : Bk), ([SV.ro L.length 1 (strsG L), SV.int .i64 (↑pos : Int), SV.int .i64 b.last, SV.int .i64 b.err, SV.int .i64 b.place] = [SV.ro e391.length 1 (strsG e391), SV.int .i64 (↑e390 : Int), SV.int .i64 e389.last, SV.int .i64 e389.err, SV.int .i64 e389.place]) ∧ (Br (intV e394 (listOf (st (↑i : Int).toNat)) (lo (↑i : Int).toNat) (hi (↑i : Int).toNat) != intV e389 (listOf (st (↑i : Int).toNat)) (lo (↑i : Int).toNat) (hi (↑i : Int).toNat)) (K Ex.ret { tmps := [(1, SV.ro n 4 (opG kd st lo hi)), (4, SV.bool false), (5, SV.ptr 0 0), (6, SV.ptr 1 0), (7, SV.int .i64 (↑i : Int))], store := [(0, some (SB.cells 48 [SV.ro (intBk e394 (listOf (st (↑i : Int).toNat)) (lo (↑i : Int).toNat) (hi (↑i : Int).toNat)).q.length 2 (qG (intBk e394 (listOf (st (↑i : Int).toNat)) (lo (↑i : Int).toNat) (hi (↑i : Int).toNat)).q), SV.int .i64 e393, SV.int .i64 (intBk e394 (listOf (st (↑i : Int).toNat)) (lo (↑i : Int).toNat) (hi (↑i : Int).toNat)).last, SV.int .i64 (intBk e394 (listOf (st (↑i : Int).toNat)) (lo (↑i : Int).toNat) (hi (↑i : Int).toNat)).err, SV.int .i64 (intBk e394 (listOf (st (↑i : Int).toNat)) (lo (↑i : Int).toNat) (hi (↑i : Int).toNat)).place])), (1, some (SB.cells 42 [SV.ro e391.length 1 (strsG e391), SV.int .i64 (↑e390 : Int), SV.int .i64 (intBk e389 (listOf (st (↑i : Int).toNat)) (lo (↑i : Int).toNat) (hi (↑i : Int).toNat)).last, SV.int .i64 (intBk e389 (listOf (st (↑i : Int).toNat)) (lo (↑i : Int).toNat) (hi (↑i : Int).toNat)).err, SV.int .i64 (intBk e389 (listOf (st (↑i : Int).toNat)) (lo (↑i : Int).toNat) (hi (↑i : Int).toNat)).place]))], nxt := 2, dirty := [0, 1, 2, 3], nt := 155 }) (K Ex.normal { tmps := [(1, SV.ro n 4 (opG kd st lo hi)), (4, SV.bool false), (5, SV.ptr 0 0), (6, SV.ptr 1 0), (7, SV.int .i64 (IntKind.i64.wrap ((↑i : Int) + 1)))], store := [(0, some (SB.cells 48 [SV.ro (intBk e394 (listOf (st (↑i : Int).toNat)) (lo (↑i : Int).toNat) (hi (↑i : Int).toNat)).q.length 2 (qG (intBk e394 (listOf (st (↑i : Int).toNat)) (lo (↑i : Int).toNat) (hi (↑i : Int).toNat)).q), SV.int .i64 e393, SV.int .i64 (intBk e394 (listOf (st (↑i : Int).toNat)) (lo (↑i : Int).toNat) (hi (↑i : Int).toNat)).last, SV.int .i64 (intBk e394 (listOf (st (↑i : Int).toNat)) (lo (↑i : Int).toNat) (hi (↑i : Int).toNat)).err, SV.int .i64 (intBk e394 (listOf (st (↑i : Int).toNat)) (lo (↑i : Int).toNat) (hi (↑i : Int).toNat)).place])), (1, some (SB.cells 42 [SV.ro e391.length 1 (strsG e391), SV.int .i64 (↑e390 : Int), SV.int .i64 (intBk e389 (listOf (st (↑i : Int).toNat)) (lo (↑i : Int).toNat) (hi (↑i : Int).toNat)).last, SV.int .i64 (intBk e389 (listOf (st (↑i : Int).toNat)) (lo (↑i : Int).toNat) (hi (↑i : Int).toNat)).err, SV.int .i64 (intBk e389 (listOf (st (↑i : Int).toNat)) (lo (↑i : Int).toNat) (hi (↑i : Int).toNat)).place]))], nxt := 2, dirty := [0, 1, 2, 3], nt := 155 })))) (Br ((IntKind.i64.wrap ((kd (↑i : Int).toNat).tmod 7 + 7)).tmod 7 == 5) (∃ (e393 : Bk), ∃ (e392 : Int), ([SV.ro b.q.length 2 (qG b.q), SV.int .i64 all, SV.int .i64 b.last, SV.int .i64 b.err, SV.int .i64 b.place] = [SV.ro e393.q.length 2 (qG e393.q), SV.int .i64 e392, SV.int .i64 e393.last, SV.int .i64 e393.err, SV.int .i64 e393.place]) ∧ (∃ (e390 : List (List Int)), ∃ (e389 : Nat), ∃ (e388 : Bk), ([SV.ro L.length 1 (strsG L), SV.int .i64 (↑pos : Int), SV.int .i64 b.last, SV.int .i64 b.err, SV.int .i64 b.place] = [SV.ro e390.length 1 (strsG e390), SV.int .i64 (↑e389 : Int), SV.int .i64 e388.last, SV.int .i64 e388.err, SV.int .i64 e388.place]) ∧ (K Ex.normal { tmps := [(1, SV.ro n 4 (opG kd st lo hi)), (4, SV.bool false), (5, SV.ptr 0 0), (6, SV.ptr 1 0), (7, SV.int .i64 (IntKind.i64.wrap ((↑i : Int) + 1)))], store := [(0, some (SB.cells 48 [SV.ro (oddBk e393).q.length 2 (qG (oddBk e393).q), SV.int .i64 e392, SV.int .i64 (oddBk e393).last, SV.int .i64 (oddBk e393).err, SV.int .i64 (oddBk e393).place])), (1, some (SB.cells 42 [SV.ro e390.length 1 (strsG e390), SV.int .i64 (↑e389 : Int), SV.int .i64 (oddBk e388).last, SV.int .i64 (oddBk e388).err, SV.int .i64 (oddBk e388).place]))], nxt := 2, dirty := [0, 1, 2, 3], nt := 155 }))) (Br ((IntKind.i64.wrap ((kd (↑i : Int).toNat).tmod 7 + 7)).tmod 7 == 6) (∃ (e392 : Bk), ∃ (e391 : Int), ([SV.ro b.q.length 2 (qG b.q), SV.int .i64 all, SV.int .i64 b.last, SV.int .i64 b.err, SV.int .i64 b.place] = [SV.ro e392.q.length 2 (qG e392.q), SV.int .i64 e391, SV.int .i64 e392.last, SV.int .i64 e392.err, SV.int .i64 e392.place]) ∧ (∃ (e389 : List (List Int)), ∃ (e388 : Nat), ∃ (e387 : Bk), ([SV.ro L.length 1 (strsG L), SV.int .i64 (↑pos : Int), SV.int .i64 b.last, SV.int .i64 b.err, SV.int .i64 b.place] = [SV.ro e389.length 1 (strsG e389), SV.int .i64 (↑e388 : Int), SV.int .i64 e387.last, SV.int .i64 e387.err, SV.int .i64 e387.place]) ∧ (K Ex.normal { tmps := [(1, SV.ro n 4 (opG kd st lo hi)), (4, SV.bool false), (5, SV.ptr 0 0), (6, SV.ptr 1 0), (7, SV.int .i64 (IntKind.i64.wrap ((↑i : Int) + 1)))], store := [(0, some (SB.cells 48 [SV.ro (shapeBk e392).q.length 2 (qG (shapeBk e392).q), SV.int .i64 e391, SV.int .i64 (shapeBk e392).last, SV.int .i64 (shapeBk e392).err, SV.int .i64 (shapeBk e392).place])), (1, some (SB.cells 42 [SV.ro e389.length 1 (strsG e389), SV.int .i64 (↑e388 : Int), SV.int .i64 (shapeBk e387).last, SV.int .i64 (shapeBk e387).err, SV.int .i64 (shapeBk e387).place]))], nxt := 2, dirty := [0, 1, 2, 3], nt := 155 }))) (∃ (e392 : Bk), ∃ (e391 : Int), ([SV.ro b.q.length 2 (qG b.q), SV.int .i64 all, SV.int .i64 b.last, SV.int .i64 b.err, SV.int .i64 b.place] = [SV.ro e392.q.length 2 (qG e392.q), SV.int .i64 e391, SV.int .i64 e392.last, SV.int .i64 e392.err, SV.int .i64 e392.place]) ∧ (∃ (e389 : List (List Int)), ∃ (e388 : Nat), ∃ (e387 : Bk), ([SV.ro L.length 1 (strsG L), SV.int .i64 (↑pos : Int), SV.int .i64 b.last, SV.int .i64 b.err, SV.int .i64 b.place] = [SV.ro e389.length 1 (strsG e389), SV.int .i64 (↑e388 : Int), SV.int .i64 e387.last, SV.int .i64 e387.err, SV.int .i64 e387.place]) ∧ (Br (oneV e392 (st (↑i : Int).toNat) [(⟨#[97]⟩ : ByteArray), (⟨#[114, 97, 116, 101]⟩ : ByteArray), (⟨#[111, 110]⟩ : ByteArray), (⟨#[111, 102, 102]⟩ : ByteArray)] != oneV e387 (st (↑i : Int).toNat) [(⟨#[97]⟩ : ByteArray), (⟨#[114, 97, 116, 101]⟩ : ByteArray), (⟨#[111, 110]⟩ : ByteArray), (⟨#[111, 102, 102]⟩ : ByteArray)]) (K Ex.ret { tmps := [(1, SV.ro n 4 (opG kd st lo hi)), (4, SV.bool false), (5, SV.ptr 0 0), (6, SV.ptr 1 0), (7, SV.int .i64 (↑i : Int))], store := [(0, some (SB.cells 48 [SV.ro (oneBk e392 (st (↑i : Int).toNat) [(⟨#[97]⟩ : ByteArray), (⟨#[114, 97, 116, 101]⟩ : ByteArray), (⟨#[111, 110]⟩ : ByteArray), (⟨#[111, 102, 102]⟩ : ByteArray)]).q.length 2 (qG (oneBk e392 (st (↑i : Int).toNat) [(⟨#[97]⟩ : ByteArray), (⟨#[114, 97, 116, 101]⟩ : ByteArray), (⟨#[111, 110]⟩ : ByteArray), (⟨#[111, 102, 102]⟩ : ByteArray)]).q), SV.int .i64 e391, SV.int .i64 (oneBk e392 (st (↑i : Int).toNat) [(⟨#[97]⟩ : ByteArray), (⟨#[114, 97, 116, 101]⟩ : ByteArray), (⟨#[111, 110]⟩ : ByteArray), (⟨#[111, 102, 102]⟩ : ByteArray)]).last, SV.int .i64 (oneBk e392 (st (↑i : Int).toNat) [(⟨#[97]⟩ : ByteArray), (⟨#[114, 97, 116, 101]⟩ : ByteArray), (⟨#[111, 110]⟩ : ByteArray), (⟨#[111, 102, 102]⟩ : ByteArray)]).err, SV.int .i64 (oneBk e392 (st (↑i : Int).toNat) [(⟨#[97]⟩ : ByteArray), (⟨#[114, 97, 116, 101]⟩ : ByteArray), (⟨#[111, 110]⟩ : ByteArray), (⟨#[111, 102, 102]⟩ : ByteArray)]).place])), (1, some (SB.cells 42 [SV.ro e389.length 1 (strsG e389), SV.int .i64 (↑e388 : Int), SV.int .i64 (oneBk e387 (st (↑i : Int).toNat) [(⟨#[97]⟩ : ByteArray), (⟨#[114, 97, 116, 101]⟩ : ByteArray), (⟨#[111, 110]⟩ : ByteArray), (⟨#[111, 102, 102]⟩ : ByteArray)]).last, SV.int .i64 (oneBk e387 (st (↑i : Int).toNat) [(⟨#[97]⟩ : ByteArray), (⟨#[114, 97, 116, 101]⟩ : ByteArray), (⟨#[111, 110]⟩ : ByteArray), (⟨#[111, 102, 102]⟩ : ByteArray)]).err, SV.int .i64 (oneBk e387 (st (↑i : Int).toNat) [(⟨#[97]⟩ : ByteArray), (⟨#[114, 97, 116, 101]⟩ : ByteArray), (⟨#[111, 110]⟩ : ByteArray), (⟨#[111, 102, 102]⟩ : ByteArray)]).place]))], nxt := 2, dirty := [0, 1, 2, 3], nt := 155 }) (K Ex.normal { tmps := [(1, SV.ro n 4 (opG kd st lo hi)), (4, SV.bool false), (5, SV.ptr 0 0), (6, SV.ptr 1 0), (7, SV.int .i64 (IntKind.i64.wrap ((↑i : Int) + 1)))], store := [(0, some (SB.cells 48 [SV.ro (oneBk e392 (st (↑i : Int).toNat) [(⟨#[97]⟩ : ByteArray), (⟨#[114, 97, 116, 101]⟩ : ByteArray), (⟨#[111, 110]⟩ : ByteArray), (⟨#[111, 102, 102]⟩ : ByteArray)]).q.length 2 (qG (oneBk e392 (st (↑i : Int).toNat) [(⟨#[97]⟩ : ByteArray), (⟨#[114, 97, 116, 101]⟩ : ByteArray), (⟨#[111, 110]⟩ : ByteArray), (⟨#[111, 102, 102]⟩ : ByteArray)]).q), SV.int .i64 e391, SV.int .i64 (oneBk e392 (st (↑i : Int).toNat) [(⟨#[97]⟩ : ByteArray), (⟨#[114, 97, 116, 101]⟩ : ByteArray), (⟨#[111, 110]⟩ : ByteArray), (⟨#[111, 102, 102]⟩ : ByteArray)]).last, SV.int .i64 (oneBk e392 (st (↑i : Int).toNat) [(⟨#[97]⟩ : ByteArray), (⟨#[114, 97, 116, 101]⟩ : ByteArray), (⟨#[111, 110]⟩ : ByteArray), (⟨#[111, 102, 102]⟩ : ByteArray)]).err, SV.int .i64 (oneBk e392 (st (↑i : Int).toNat) [(⟨#[97]⟩ : ByteArray), (⟨#[114, 97, 116, 101]⟩ : ByteArray), (⟨#[111, 110]⟩ : ByteArray), (⟨#[111, 102, 102]⟩ : ByteArray)]).place])), (1, some (SB.cells 42 [SV.ro e389.length 1 (strsG e389), SV.int .i64 (↑e388 : Int), SV.int .i64 (oneBk e387 (st (↑i : Int).toNat) [(⟨#[97]⟩ : ByteArray), (⟨#[114, 97, 116, 101]⟩ : ByteArray), (⟨#[111, 110]⟩ : ByteArray), (⟨#[111, 102, 102]⟩ : ByteArray)]).last, SV.int .i64 (oneBk e387 (st (↑i : Int).toNat) [(⟨#[97]⟩ : ByteArray), (⟨#[114, 97, 116, 101]⟩ : ByteArray), (⟨#[111, 110]⟩ : ByteArray), (⟨#[111, 102, 102]⟩ : ByteArray)]).err, SV.int .i64 (oneBk e387 (st (↑i : Int).toNat) [(⟨#[97]⟩ : ByteArray), (⟨#[114, 97, 116, 101]⟩ : ByteArray), (⟨#[111, 110]⟩ : ByteArray), (⟨#[111, 102, 102]⟩ : ByteArray)]).place]))], nxt := 2, dirty := [0, 1, 2, 3], nt := 155 })))))))))) (False)) (K (Ex.exit 0) { tmps := [(1, SV.ro n 4 (opG kd st lo hi)), (4, SV.bool false), (5, SV.ptr 0 0), (6, SV.ptr 1 0), (7, SV.int .i64 (↑i : Int))], store := [(0, some (SB.cells 48 [SV.ro b.q.length 2 (qG b.q), SV.int .i64 all, SV.int .i64 b.last, SV.int .i64 b.err, SV.int .i64 b.place])), (1, some (SB.cells 42 [SV.ro L.length 1 (strsG L), SV.int .i64 (↑pos : Int), SV.int .i64 b.last, SV.int .i64 b.err, SV.int .i64 b.place]))], nxt := 2, dirty := [0, 1, 2, 3], nt := 155 })) := by kernel_rfl
theorem wb_after (n : Nat) (kd : Nat → Int) (st : Nat → ByteArray) (lo hi : Nat → Int) (all : Int) (L : List (List Int)) (pos : Nat) (b : Bk) (i : Nat) (K : KC) : afterE wbE (keepW wbR 0) wbF wbP 0 K (.exit 0) (wbS n kd st lo hi all L pos b i) =
  (Br (!(b.err == 0) == (b.err == 0)) (K (SV.bool false) [] []) (∃ (e399 : Bk), ∃ (e398 : Int), ([SV.ro b.q.length 2 (qG b.q), SV.int .i64 all, SV.int .i64 b.last, SV.int .i64 b.err, SV.int .i64 b.place] = [SV.ro e399.q.length 2 (qG e399.q), SV.int .i64 e398, SV.int .i64 e399.last, SV.int .i64 e399.err, SV.int .i64 e399.place]) ∧ (∃ (e396 : List (List Int)), ∃ (e395 : Nat), ∃ (e394 : Bk), ([SV.ro L.length 1 (strsG L), SV.int .i64 (↑pos : Int), SV.int .i64 b.last, SV.int .i64 b.err, SV.int .i64 b.place] = [SV.ro e396.length 1 (strsG e396), SV.int .i64 (↑e395 : Int), SV.int .i64 e394.last, SV.int .i64 e394.err, SV.int .i64 e394.place] ∧ okLn e396 ∧ RB e396 e395 e394) ∧ (∀ (pos'392 : Nat), ∀ (_ : RB e396 pos'392 (endBk e394)), Br (endE e399 == endE e394) (Br (endAt e399 == endAt e394) (K (SV.bool true) [] []) (K (SV.bool false) [] [])) (K (SV.bool false) [] []))))) := by kernel_rfl
theorem wb_law (n : Nat) (kd : Nat → Int) (st : Nat → ByteArray) (lo hi : Nat → Int) (L : List (List Int)) (hL : okLn L) (b0 : Bk) (h0 : okBk b0) (hR0 : RB L 0 b0) (hn : n ≤ 100) (K : KC) (hK : K (.bool true) [] []) :
    ∃ q, loopE wbE (keepW wbR 0) wbF wbP 0 0 K q (wbS n kd st lo hi L.length L 0 b0 0) := by
  have hlen := hL.len
  refine ⟨n + 1, loop_m (fun a : Nat × Bk × Nat => wbS n kd st lo hi L.length L a.1 a.2.1 a.2.2) (fun a => n - a.2.2) (fun a => okBk a.2.1 ∧ RB L a.1 a.2.1 ∧ a.2.2 ≤ n) ?_ (n + 1) (0, b0, 0) ⟨h0, hR0, Nat.zero_le _⟩ (by show n - 0 < _; omega)⟩
  rintro ⟨pos, b, i⟩ ⟨h1, h2, h3⟩ X hX
  simp only at h1 h2 h3 hX ⊢
  rw [wb_round]
  refine Br.of (fun c => ?_) fun c => ?_
  · have c : i < n := by have := of_decide_eq_true c; omega
    have next : ∀ b' pos', okBk b' → RB L pos' b' → X (wbS n kd st lo hi L.length L pos' b' (i + 1 : Nat)) := fun b' pos' a1 a2 => hX (pos', b', i + 1) ⟨a1, a2, c⟩ (by show n - (i + 1) < n - i; omega)
    rw [wi64_succ c (by omega)]
    refine Br.of (fun _ => ?_) fun f => in_f c f
    refine Br.of (fun _ => ?_) fun _ => Br.of (fun _ => ?_) fun _ => Br.of (fun _ => ?_) fun _ => Br.of (fun _ => ?_) fun _ => Br.of (fun _ => ?_) fun _ => Br.of (fun _ => ?_) fun _ => ?_
    · refine ⟨b, L.length, ⟨rfl, h1, by omega, by omega⟩, Br.of (fun t => ⟨L, pos, b, ⟨rfl, hL, h2⟩, fun pos' hR => ?_⟩) fun t => ⟨L, pos, b, ⟨rfl, hL, h2⟩, fun pos' hR => ?_⟩⟩
      · rw [t]; exact next _ _ h1.take hR
      · rw [t]; exact ⟨_, rfl, next _ _ h1.take hR⟩
    · exact ⟨b, L.length, ⟨rfl, h1⟩, L, pos, b, ⟨rfl, hL, h2⟩, fun pos' hR => Br.of (fun t => absurd t (by simp)) fun _ => next _ _ h1 hR⟩
    · exact ⟨b, L.length, rfl, L, pos, b, rfl, Br.of (fun t => absurd t (by simp)) fun _ => next _ _ h1.fail h2.fail⟩
    · exact ⟨b, L.length, rfl, L, pos, b, rfl, Br.of (fun t => absurd t (by simp)) fun _ => next _ _ h1.fail h2.fail⟩
    · exact ⟨b, L.length, rfl, L, pos, b, rfl, next _ _ h1.fail h2.fail⟩
    · exact ⟨b, L.length, rfl, L, pos, b, rfl, next _ _ h1.fail h2.fail⟩
    · exact ⟨b, L.length, rfl, L, pos, b, rfl, Br.of (fun t => absurd t (by simp)) fun _ => next _ _ h1.fail h2.fail⟩
  · show afterE wbE (keepW wbR 0) wbF wbP 0 K (.exit 0) (wbS n kd st lo hi L.length L pos b i)
    rw [wb_after]
    exact Br.of (fun t => absurd t (by simp)) fun _ => ⟨b, L.length, rfl, L, pos, b, ⟨rfl, hL, h2⟩, fun pos' hR => Br.of (fun _ => Br.of (fun _ => hK) fun t => absurd t (by simp)) fun t => absurd t (by simp)⟩
theorem wbooks_ok (s : ByteArray) (n : Nat) (kd : Nat → Int) (st : Nat → ByteArray) (lo hi : Nat → Int) : CallOK Tryz.prog 3 [.str s, .ro n 4 (opG kd st lo hi)] [] (.bool true) [] [] :=
  runL_ok wbR (fun _ => 0) y8 3 (fun _ h => nomatch h) fun _ _ K hK => by
    have hK := hK [] fun _ h => nomatch h
    rw [wb_entry]
    refine Br.of (fun _ => hK) fun c => ⟨n, kd, st, lo, hi, rfl, fun v hv => Br.of (fun _ => hK) fun d => ?_⟩
    have c : s.size ≤ 5000 := by have := of_decide_eq_false c; omega
    have hs : s.size ≤ 1048576 := by omega
    refine Br.of (fun _ => Br.of (fun _ => ?_) fun f => absurd hs (of_decide_eq_false f)) fun f => absurd hs (of_decide_eq_false f)
    have hL := okLn_lines hs
    exact wb_law n kd st lo hi (linesL (listOf s)) hL (openB (listOf s)) (okBk_open hL) ⟨Nat.zero_le _, rfl⟩ (hv (by simpa using d)) K hK
end Go.Proofs.YtjlmofhokbnloaaGreatDoor

