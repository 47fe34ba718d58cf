import Derived.Test.YtjlmofhokbnloaaDoorKh
namespace Go.Proofs.YtjlmofhokbnloaaDoor
open Go.Se
set_option maxRecDepth 100000
theorem one4_nf (b : Bk) (all : Int) (s a c e f : ByteArray) (t : TypeId) (K : KC) : runU 6 y5 3 74 [.ptr 0 0, .str s, .arr 1 0 4 4] [some (.cells bkT (bkC all b)), some (.cells t [.str a, .str c, .str e, .str f])] K =
  (Br (!b.err == 0) (K (SV.int .i64 0) [some (SB.cells 105 [SV.ro b.q.length 2 (qG b.q), SV.int .i64 all, SV.int .i64 b.last, SV.int .i64 b.err, SV.int .i64 b.place]), some (SB.cells t [SV.str a, SV.str c, SV.str e, SV.str f])] []) (Br (s == a) (K (SV.int .i64 0) [some (SB.cells 105 [SV.ro b.q.length 2 (qG b.q), SV.int .i64 all, SV.int .i64 b.last, SV.int .i64 b.err, SV.int .i64 b.place]), some (SB.cells t [SV.str a, SV.str c, SV.str e, SV.str f])] []) (Br (s == c) (K (SV.int .i64 1) [some (SB.cells 105 [SV.ro b.q.length 2 (qG b.q), SV.int .i64 all, SV.int .i64 b.last, SV.int .i64 b.err, SV.int .i64 b.place]), some (SB.cells t [SV.str a, SV.str c, SV.str e, SV.str f])] []) (Br (s == e) (K (SV.int .i64 2) [some (SB.cells 105 [SV.ro b.q.length 2 (qG b.q), SV.int .i64 all, SV.int .i64 b.last, SV.int .i64 b.err, SV.int .i64 b.place]), some (SB.cells t [SV.str a, SV.str c, SV.str e, SV.str f])] []) (Br (s == f) (K (SV.int .i64 3) [some (SB.cells 105 [SV.ro b.q.length 2 (qG b.q), SV.int .i64 all, SV.int .i64 b.last, SV.int .i64 b.err, SV.int .i64 b.place]), some (SB.cells t [SV.str a, SV.str c, SV.str e, SV.str f])] []) (Br (b.err == 0) (K (SV.int .i64 0) [some (SB.cells 105 [SV.ro b.q.length 2 (qG b.q), SV.int .i64 all, SV.int .i64 b.last, SV.int .i64 24, SV.int .i64 b.last]), some (SB.cells t [SV.str a, SV.str c, SV.str e, SV.str f])] [0]) (K (SV.int .i64 0) [some (SB.cells 105 [SV.ro b.q.length 2 (qG b.q), SV.int .i64 all, SV.int .i64 b.last, SV.int .i64 b.err, SV.int .i64 b.place]), some (SB.cells t [SV.str a, SV.str c, SV.str e, SV.str f])] []))))))) := by kernel_rfl
theorem rone1_nf (L : List (List Int)) (pos : Nat) (b : Bk) (s a : ByteArray) (t : TypeId) (K : KC) : runU 3 y6 3 79 [.ptr 0 0, .str s, .arr 1 0 1 1] [some (.cells rbT (rbC L pos b)), some (.cells t [.str a])] K =
  (Br (b.err != 0) (K (SV.int .i64 0) [some (SB.cells 56 [SV.ro L.length 1 (strsG L), SV.int .i64 (↑pos : Int), SV.int .i64 b.last, SV.int .i64 b.err, SV.int .i64 b.place]), some (SB.cells t [SV.str a])] []) (Br (a == s) (K (SV.int .i64 0) [some (SB.cells 56 [SV.ro L.length 1 (strsG L), SV.int .i64 (↑pos : Int), SV.int .i64 b.last, SV.int .i64 b.err, SV.int .i64 b.place]), some (SB.cells t [SV.str a])] []) (Br (b.err == 0) (K (SV.int .i64 0) [some (SB.cells 56 [SV.ro L.length 1 (strsG L), SV.int .i64 (↑pos : Int), SV.int .i64 b.last, SV.int .i64 24, SV.int .i64 b.last]), some (SB.cells t [SV.str a])] [0]) (K (SV.int .i64 0) [some (SB.cells 56 [SV.ro L.length 1 (strsG L), SV.int .i64 (↑pos : Int), SV.int .i64 b.last, SV.int .i64 b.err, SV.int .i64 b.place]), some (SB.cells t [SV.str a])] [])))) := by kernel_rfl
theorem rone2_nf (L : List (List Int)) (pos : Nat) (b : Bk) (s a c : ByteArray) (t : TypeId) (K : KC) : runU 4 y6 3 79 [.ptr 0 0, .str s, .arr 1 0 2 2] [some (.cells rbT (rbC L pos b)), some (.cells t [.str a, .str c])] K =
  (Br (b.err != 0) (K (SV.int .i64 0) [some (SB.cells 56 [SV.ro L.length 1 (strsG L), SV.int .i64 (↑pos : Int), SV.int .i64 b.last, SV.int .i64 b.err, SV.int .i64 b.place]), some (SB.cells t [SV.str a, SV.str c])] []) (Br (a == s) (K (SV.int .i64 0) [some (SB.cells 56 [SV.ro L.length 1 (strsG L), SV.int .i64 (↑pos : Int), SV.int .i64 b.last, SV.int .i64 b.err, SV.int .i64 b.place]), some (SB.cells t [SV.str a, SV.str c])] []) (Br (c == s) (K (SV.int .i64 1) [some (SB.cells 56 [SV.ro L.length 1 (strsG L), SV.int .i64 (↑pos : Int), SV.int .i64 b.last, SV.int .i64 b.err, SV.int .i64 b.place]), some (SB.cells t [SV.str a, SV.str c])] []) (Br (b.err == 0) (K (SV.int .i64 0) [some (SB.cells 56 [SV.ro L.length 1 (strsG L), SV.int .i64 (↑pos : Int), SV.int .i64 b.last, SV.int .i64 24, SV.int .i64 b.last]), some (SB.cells t [SV.str a, SV.str c])] [0]) (K (SV.int .i64 0) [some (SB.cells 56 [SV.ro L.length 1 (strsG L), SV.int .i64 (↑pos : Int), SV.int .i64 b.last, SV.int .i64 b.err, SV.int .i64 b.place]), some (SB.cells t [SV.str a, SV.str c])] []))))) := by kernel_rfl
theorem rone4_nf (L : List (List Int)) (pos : Nat) (b : Bk) (s a c e f : ByteArray) (t : TypeId) (K : KC) : runU 6 y6 3 79 [.ptr 0 0, .str s, .arr 1 0 4 4] [some (.cells rbT (rbC L pos b)), some (.cells t [.str a, .str c, .str e, .str f])] K =
  (Br (b.err != 0) (K (SV.int .i64 0) [some (SB.cells 56 [SV.ro L.length 1 (strsG L), SV.int .i64 (↑pos : Int), SV.int .i64 b.last, SV.int .i64 b.err, SV.int .i64 b.place]), some (SB.cells t [SV.str a, SV.str c, SV.str e, SV.str f])] []) (Br (a == s) (K (SV.int .i64 0) [some (SB.cells 56 [SV.ro L.length 1 (strsG L), SV.int .i64 (↑pos : Int), SV.int .i64 b.last, SV.int .i64 b.err, SV.int .i64 b.place]), some (SB.cells t [SV.str a, SV.str c, SV.str e, SV.str f])] []) (Br (c == s) (K (SV.int .i64 1) [some (SB.cells 56 [SV.ro L.length 1 (strsG L), SV.int .i64 (↑pos : Int), SV.int .i64 b.last, SV.int .i64 b.err, SV.int .i64 b.place]), some (SB.cells t [SV.str a, SV.str c, SV.str e, SV.str f])] []) (Br (e == s) (K (SV.int .i64 2) [some (SB.cells 56 [SV.ro L.length 1 (strsG L), SV.int .i64 (↑pos : Int), SV.int .i64 b.last, SV.int .i64 b.err, SV.int .i64 b.place]), some (SB.cells t [SV.str a, SV.str c, SV.str e, SV.str f])] []) (Br (f == s) (K (SV.int .i64 3) [some (SB.cells 56 [SV.ro L.length 1 (strsG L), SV.int .i64 (↑pos : Int), SV.int .i64 b.last, SV.int .i64 b.err, SV.int .i64 b.place]), some (SB.cells t [SV.str a, SV.str c, SV.str e, SV.str f])] []) (Br (b.err == 0) (K (SV.int .i64 0) [some (SB.cells 56 [SV.ro L.length 1 (strsG L), SV.int .i64 (↑pos : Int), SV.int .i64 b.last, SV.int .i64 24, SV.int .i64 b.last]), some (SB.cells t [SV.str a, SV.str c, SV.str e, SV.str f])] [0]) (K (SV.int .i64 0) [some (SB.cells 56 [SV.ro L.length 1 (strsG L), SV.int .i64 (↑pos : Int), SV.int .i64 b.last, SV.int .i64 b.err, SV.int .i64 b.place]), some (SB.cells t [SV.str a, SV.str c, SV.str e, SV.str f])] []))))))) := by kernel_rfl
theorem one1_law {b : Bk} {all : Int} {s a : ByteArray} {t : TypeId} {K : KC} (hK : ∀ d', (∀ p, p ∈ d' → p ∈ [0]) → K (.int .i64 (oneV b s [a])) [some (.cells bkT (bkC all (oneBk b s [a]))), some (.cells t [.str a])] d') :
    runU 3 y5 3 74 [.ptr 0 0, .str s, .arr 1 0 1 1] [some (.cells bkT (bkC all b)), some (.cells t [.str a])] K := by
  rw [one1_nf]
  cases hc : b.err == 0 with
  | false =>
    obtain ⟨t1, t2⟩ := one_bad (s := s) (ws := [a]) hc
    rw [t1, t2] at hK; exact hK [] sub0
  | true =>
    refine Br.of (fun e => by cases e) fun _ => ?_
    refine Br.of (fun h => ?_) fun h0 => ?_
    · obtain ⟨t1, t2⟩ := one_hit (ws := [a]) (j := 0) hc (by rw [wordI_t h]) (by simp)
      rw [t1, t2] at hK; exact hK [] sub0
    obtain ⟨t1, t2⟩ := one_miss (ws := [a]) hc (by rw [wordI_f h0]; rfl)
    rw [t1, t2] at hK
    exact Br.of (fun _ => hK [0] sub1) fun e => by cases e
theorem one2_law {b : Bk} {all : Int} {s a c : ByteArray} {t : TypeId} {K : KC} (hK : ∀ d', (∀ p, p ∈ d' → p ∈ [0]) → K (.int .i64 (oneV b s [a, c])) [some (.cells bkT (bkC all (oneBk b s [a, c]))), some (.cells t [.str a, .str c])] d') :
    runU 4 y5 3 74 [.ptr 0 0, .str s, .arr 1 0 2 2] [some (.cells bkT (bkC all b)), some (.cells t [.str a, .str c])] K := by
  rw [one2_nf]
  cases hc : b.err == 0 with
  | false =>
    obtain ⟨t1, t2⟩ := one_bad (s := s) (ws := [a, c]) hc
    rw [t1, t2] at hK; exact hK [] sub0
  | true =>
    refine Br.of (fun e => by cases e) fun _ => ?_
    refine Br.of (fun h => ?_) fun h0 => ?_
    · obtain ⟨t1, t2⟩ := one_hit (ws := [a, c]) (j := 0) hc (by rw [wordI_t h]) (by simp)
      rw [t1, t2] at hK; exact hK [] sub0
    refine Br.of (fun h => ?_) fun h1 => ?_
    · obtain ⟨t1, t2⟩ := one_hit (ws := [a, c]) (j := 1) hc (by rw [wordI_f h0, wordI_t h]) (by simp)
      rw [t1, t2] at hK; exact hK [] sub0
    obtain ⟨t1, t2⟩ := one_miss (ws := [a, c]) hc (by rw [wordI_f h0, wordI_f h1]; rfl)
    rw [t1, t2] at hK
    exact Br.of (fun _ => hK [0] sub1) fun e => by cases e
theorem one4_law {b : Bk} {all : Int} {s a c e f : ByteArray} {t : TypeId} {K : KC} (hK : ∀ d', (∀ p, p ∈ d' → p ∈ [0]) → K (.int .i64 (oneV b s [a, c, e, f])) [some (.cells bkT (bkC all (oneBk b s [a, c, e, f]))), some (.cells t [.str a, .str c, .str e, .str f])] d') :
    runU 6 y5 3 74 [.ptr 0 0, .str s, .arr 1 0 4 4] [some (.cells bkT (bkC all b)), some (.cells t [.str a, .str c, .str e, .str f])] K := by
  rw [one4_nf]
  cases hc : b.err == 0 with
  | false =>
    obtain ⟨t1, t2⟩ := one_bad (s := s) (ws := [a, c, e, f]) hc
    rw [t1, t2] at hK; exact hK [] sub0
  | true =>
    refine Br.of (fun e => by cases e) fun _ => ?_
    refine Br.of (fun h => ?_) fun h0 => ?_
    · obtain ⟨t1, t2⟩ := one_hit (ws := [a, c, e, f]) (j := 0) hc (by rw [wordI_t h]) (by simp)
      rw [t1, t2] at hK; exact hK [] sub0
    refine Br.of (fun h => ?_) fun h1 => ?_
    · obtain ⟨t1, t2⟩ := one_hit (ws := [a, c, e, f]) (j := 1) hc (by rw [wordI_f h0, wordI_t h]) (by simp)
      rw [t1, t2] at hK; exact hK [] sub0
    refine Br.of (fun h => ?_) fun h2 => ?_
    · obtain ⟨t1, t2⟩ := one_hit (ws := [a, c, e, f]) (j := 2) hc (by rw [wordI_f h0, wordI_f h1, wordI_t h]) (by simp)
      rw [t1, t2] at hK; exact hK [] sub0
    refine Br.of (fun h => ?_) fun h3 => ?_
    · obtain ⟨t1, t2⟩ := one_hit (ws := [a, c, e, f]) (j := 3) hc (by rw [wordI_f h0, wordI_f h1, wordI_f h2, wordI_t h]) (by simp)
      rw [t1, t2] at hK; exact hK [] sub0
    obtain ⟨t1, t2⟩ := one_miss (ws := [a, c, e, f]) hc (by rw [wordI_f h0, wordI_f h1, wordI_f h2, wordI_f h3]; rfl)
    rw [t1, t2] at hK
    exact Br.of (fun _ => hK [0] sub1) fun e => by cases e
theorem rone1_law {L : List (List Int)} {pos : Nat} {b : Bk} {s a : ByteArray} {t : TypeId} {K : KC} (hK : ∀ d', (∀ p, p ∈ d' → p ∈ [0]) → K (.int .i64 (oneV b s [a])) [some (.cells rbT (rbC L pos (oneBk b s [a]))), some (.cells t [.str a])] d') :
    runU 3 y6 3 79 [.ptr 0 0, .str s, .arr 1 0 1 1] [some (.cells rbT (rbC L pos b)), some (.cells t [.str a])] K := by
  rw [rone1_nf]
  cases hc : b.err == 0 with
  | false =>
    obtain ⟨t1, t2⟩ := one_bad (s := s) (ws := [a]) hc
    rw [show (b.err != 0) = true by rw [bne, hc]; rfl]
    rw [t1, t2] at hK; exact hK [] sub0
  | true =>
    rw [show (b.err != 0) = false by rw [bne, hc]; rfl]
    rw [ba_comm a s]
    refine Br.of (fun e => by cases e) fun _ => ?_
    refine Br.of (fun h => ?_) fun h0 => ?_
    · obtain ⟨t1, t2⟩ := one_hit (ws := [a]) (j := 0) hc (by rw [wordI_t h]) (by simp)
      rw [t1, t2] at hK; exact hK [] sub0
    obtain ⟨t1, t2⟩ := one_miss (ws := [a]) hc (by rw [wordI_f h0]; rfl)
    rw [t1, t2] at hK
    exact Br.of (fun _ => hK [0] sub1) fun e => by cases e
theorem rone2_law {L : List (List Int)} {pos : Nat} {b : Bk} {s a c : ByteArray} {t : TypeId} {K : KC} (hK : ∀ d', (∀ p, p ∈ d' → p ∈ [0]) → K (.int .i64 (oneV b s [a, c])) [some (.cells rbT (rbC L pos (oneBk b s [a, c]))), some (.cells t [.str a, .str c])] d') :
    runU 4 y6 3 79 [.ptr 0 0, .str s, .arr 1 0 2 2] [some (.cells rbT (rbC L pos b)), some (.cells t [.str a, .str c])] K := by
  rw [rone2_nf]
  cases hc : b.err == 0 with
  | false =>
    obtain ⟨t1, t2⟩ := one_bad (s := s) (ws := [a, c]) hc
    rw [show (b.err != 0) = true by rw [bne, hc]; rfl]
    rw [t1, t2] at hK; exact hK [] sub0
  | true =>
    rw [show (b.err != 0) = false by rw [bne, hc]; rfl]
    rw [ba_comm a s, ba_comm c s]
    refine Br.of (fun e => by cases e) fun _ => ?_
    refine Br.of (fun h => ?_) fun h0 => ?_
    · obtain ⟨t1, t2⟩ := one_hit (ws := [a, c]) (j := 0) hc (by rw [wordI_t h]) (by simp)
      rw [t1, t2] at hK; exact hK [] sub0
    refine Br.of (fun h => ?_) fun h1 => ?_
    · obtain ⟨t1, t2⟩ := one_hit (ws := [a, c]) (j := 1) hc (by rw [wordI_f h0, wordI_t h]) (by simp)
      rw [t1, t2] at hK; exact hK [] sub0
    obtain ⟨t1, t2⟩ := one_miss (ws := [a, c]) hc (by rw [wordI_f h0, wordI_f h1]; rfl)
    rw [t1, t2] at hK
    exact Br.of (fun _ => hK [0] sub1) fun e => by cases e
theorem rone4_law {L : List (List Int)} {pos : Nat} {b : Bk} {s a c e f : ByteArray} {t : TypeId} {K : KC} (hK : ∀ d', (∀ p, p ∈ d' → p ∈ [0]) → K (.int .i64 (oneV b s [a, c, e, f])) [some (.cells rbT (rbC L pos (oneBk b s [a, c, e, f]))), some (.cells t [.str a, .str c, .str e, .str f])] d') :
    runU 6 y6 3 79 [.ptr 0 0, .str s, .arr 1 0 4 4] [some (.cells rbT (rbC L pos b)), some (.cells t [.str a, .str c, .str e, .str f])] K := by
  rw [rone4_nf]
  cases hc : b.err == 0 with
  | false =>
    obtain ⟨t1, t2⟩ := one_bad (s := s) (ws := [a, c, e, f]) hc
    rw [show (b.err != 0) = true by rw [bne, hc]; rfl]
    rw [t1, t2] at hK; exact hK [] sub0
  | true =>
    rw [show (b.err != 0) = false by rw [bne, hc]; rfl]
    rw [ba_comm a s, ba_comm c s, ba_comm e s, ba_comm f s]
    refine Br.of (fun e => by cases e) fun _ => ?_
    refine Br.of (fun h => ?_) fun h0 => ?_
    · obtain ⟨t1, t2⟩ := one_hit (ws := [a, c, e, f]) (j := 0) hc (by rw [wordI_t h]) (by simp)
      rw [t1, t2] at hK; exact hK [] sub0
    refine Br.of (fun h => ?_) fun h1 => ?_
    · obtain ⟨t1, t2⟩ := one_hit (ws := [a, c, e, f]) (j := 1) hc (by rw [wordI_f h0, wordI_t h]) (by simp)
      rw [t1, t2] at hK; exact hK [] sub0
    refine Br.of (fun h => ?_) fun h2 => ?_
    · obtain ⟨t1, t2⟩ := one_hit (ws := [a, c, e, f]) (j := 2) hc (by rw [wordI_f h0, wordI_f h1, wordI_t h]) (by simp)
      rw [t1, t2] at hK; exact hK [] sub0
    refine Br.of (fun h => ?_) fun h3 => ?_
    · obtain ⟨t1, t2⟩ := one_hit (ws := [a, c, e, f]) (j := 3) hc (by rw [wordI_f h0, wordI_f h1, wordI_f h2, wordI_t h]) (by simp)
      rw [t1, t2] at hK; exact hK [] sub0
    obtain ⟨t1, t2⟩ := one_miss (ws := [a, c, e, f]) hc (by rw [wordI_f h0, wordI_f h1, wordI_f h2, wordI_f h3]; rfl)
    rw [t1, t2] at hK
    exact Br.of (fun _ => hK [0] sub1) fun e => by cases e
def cOn : List SV → List (Option SB) → KC → Prop
  | [.ptr 0 0, .str s, .arr 1 0 1 1], [some (.cells 105 cs), some (.cells t [.str a])], K => ∃ (b : Bk) (all : Int), cs = bkC all b ∧ K (.int .i64 (oneV b s [a])) [some (.cells 105 (bkC all (oneBk b s [a]))), some (.cells t [.str a])] [0]
  | [.ptr 0 0, .str s, .arr 1 0 2 2], [some (.cells 105 cs), some (.cells t [.str a, .str c])], K => ∃ (b : Bk) (all : Int), cs = bkC all b ∧ K (.int .i64 (oneV b s [a, c])) [some (.cells 105 (bkC all (oneBk b s [a, c]))), some (.cells t [.str a, .str c])] [0]
  | [.ptr 0 0, .str s, .arr 1 0 4 4], [some (.cells 105 cs), some (.cells t [.str a, .str c, .str e, .str f])], K => ∃ (b : Bk) (all : Int), cs = bkC all b ∧ K (.int .i64 (oneV b s [a, c, e, f])) [some (.cells 105 (bkC all (oneBk b s [a, c, e, f]))), some (.cells t [.str a, .str c, .str e, .str f])] [0]
  | _, _, _ => False
theorem on_sat (xs : List SV) (σ : List (Option SB)) : Sat Tryd.prog 74 xs σ (cOn xs σ) := by
  intro K hK
  unfold cOn at hK
  split at hK
  case h_4 => exact hK.elim
  all_goals obtain ⟨b, all, rfl, hK⟩ := hK
  · exact sat_D (B := y5) (n := 3) (u := fun _ => 3) (Φ := fun K => K _ _ [0]) [0] one_lt (fun K hK => one1_law fun d' hd => ⟨hd, hK⟩) K hK
  · exact sat_D (B := y5) (n := 3) (u := fun _ => 4) (Φ := fun K => K _ _ [0]) [0] one_lt (fun K hK => one2_law fun d' hd => ⟨hd, hK⟩) K hK
  · exact sat_D (B := y5) (n := 3) (u := fun _ => 6) (Φ := fun K => K _ _ [0]) [0] one_lt (fun K hK => one4_law fun d' hd => ⟨hd, hK⟩) K hK
def cROn : List SV → List (Option SB) → KC → Prop
  | [.ptr 0 0, .str s, .arr 1 0 1 1], [some (.cells 56 cs), some (.cells t [.str a])], K => ∃ (L : List (List Int)) (pos : Nat) (b : Bk), cs = rbC L pos b ∧ K (.int .i64 (oneV b s [a])) [some (.cells 56 (rbC L pos (oneBk b s [a]))), some (.cells t [.str a])] [0]
  | [.ptr 0 0, .str s, .arr 1 0 2 2], [some (.cells 56 cs), some (.cells t [.str a, .str c])], K => ∃ (L : List (List Int)) (pos : Nat) (b : Bk), cs = rbC L pos b ∧ K (.int .i64 (oneV b s [a, c])) [some (.cells 56 (rbC L pos (oneBk b s [a, c]))), some (.cells t [.str a, .str c])] [0]
  | [.ptr 0 0, .str s, .arr 1 0 4 4], [some (.cells 56 cs), some (.cells t [.str a, .str c, .str e, .str f])], K => ∃ (L : List (List Int)) (pos : Nat) (b : Bk), cs = rbC L pos b ∧ K (.int .i64 (oneV b s [a, c, e, f])) [some (.cells 56 (rbC L pos (oneBk b s [a, c, e, f]))), some (.cells t [.str a, .str c, .str e, .str f])] [0]
  | _, _, _ => False
theorem ron_sat (xs : List SV) (σ : List (Option SB)) : Sat Tryd.prog 79 xs σ (cROn xs σ) := by
  intro K hK
  unfold cROn at hK
  split at hK
  case h_4 => exact hK.elim
  all_goals obtain ⟨L, pos, b, rfl, hK⟩ := hK
  · exact sat_D (B := y6) (n := 3) (u := fun _ => 3) (Φ := fun K => K _ _ [0]) [0] one_lt (fun K hK => rone1_law fun d' hd => ⟨hd, hK⟩) K hK
  · exact sat_D (B := y6) (n := 3) (u := fun _ => 4) (Φ := fun K => K _ _ [0]) [0] one_lt (fun K hK => rone2_law fun d' hd => ⟨hd, hK⟩) K hK
  · exact sat_D (B := y6) (n := 3) (u := fun _ => 6) (Φ := fun K => K _ _ [0]) [0] one_lt (fun K hK => rone4_law fun d' hd => ⟨hd, hK⟩) K hK
noncomputable def y8 : Know Tryd.prog := ((y7).add 74 cOn on_sat).add 79 cROn ron_sat
end Go.Proofs.YtjlmofhokbnloaaDoor

