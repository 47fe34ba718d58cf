import Derived.Test.YtbedljhbakdghaaGreatDoorWe
import Derived.Test.YtbedljhbakdghaaGreatDoorSeWire
namespace Go.Proofs.YtbedljhbakdghaaGreatDoor
open Go.Se
set_option maxRecDepth 100000
def frR : List (Nat × Keep) := [(0, ⟨[3, 6, 7, 8], [], [], 0, []⟩)]
def frS (B : List Int) (acc i : Int) : St := ⟨[(3, .int .u64 acc), (6, .ro B.length 1 (bG B)), (7, .int .i64 B.length), (8, .int .i64 i)], [], 0, [], 22⟩
noncomputable abbrev frE : Env := envL frR (fun _ => 0) w8 1
noncomputable abbrev frF : Func := Tryz.f86
abbrev frP : List Nat := [1, 1, 0, 1, 0]
theorem fr_entry (B : List Int) (K : KC) : runL frR (fun _ => 0) w8 2 86 [.ro B.length 1 (bG B)] [] K =
  (∃ q_, loopE frE (keepW frR 0) frF frP 0 0 K q_ { tmps := [(3, SV.int .u64 0), (6, SV.ro B.length 1 (bG B)), (7, SV.int .i64 (↑B.length : Int)), (8, SV.int .i64 0)], store := [], nxt := 0, dirty := [], nt := 22 }) := by kernel_rfl
theorem fr_round (B : List Int) (acc : Int) (i : Nat) (K : Ex → St → Prop) : roundE frE (keepW frR 0) frF frP 0 K (frS B acc i) =
  (Br (decide ((↑i : Int) < (↑B.length : Int))) (Br (decide (0 ≤ (↑i : Int)) && decide ((↑i : Int) < (↑B.length : Int))) (Br (decide (0 ≤ IntKind.i64.wrap (8 * (↑i : Int)))) (K Ex.normal { tmps := [(3, SV.int .u64 (IntKind.u64.wrap (↑(BitVec.ofInt IntKind.u64.bits acc ||| BitVec.ofInt IntKind.u64.bits (IntKind.u64.wrap (IntKind.u64.wrap (B.getD (↑i : Int).toNat 0) * 2 ^ min (IntKind.i64.wrap (8 * (↑i : Int))).toNat IntKind.u64.bits))).toNat : Int))), (6, SV.ro B.length 1 (bG B)), (7, SV.int .i64 (↑B.length : Int)), (8, SV.int .i64 (IntKind.i64.wrap ((↑i : Int) + 1)))], store := [], nxt := 0, dirty := [], nt := 22 }) (False)) (False)) (K (Ex.exit 0) { tmps := [(3, SV.int .u64 acc), (6, SV.ro B.length 1 (bG B)), (7, SV.int .i64 (↑B.length : Int)), (8, SV.int .i64 (↑i : Int))], store := [], nxt := 0, dirty := [], nt := 22 })) := by kernel_rfl
theorem fr_after (B : List Int) (acc : Int) (i : Nat) (K : KC) : afterE frE (keepW frR 0) frF frP 0 K (.exit 0) (frS B acc i) =
  (K (SV.int .u64 acc) [] []) := by kernel_rfl
theorem fr_law (B : List Int) (hB : bytesOk B) (h8 : B.length ≤ 8) (K : KC) (hK : K (.int .u64 (unle B)) [] []) : runL frR (fun _ => 0) w8 2 86 [.ro B.length 1 (bG B)] [] K := by
  rw [fr_entry]
  refine ⟨B.length + 1, loop_up (fun i : Nat => frS B (unle (B.take i)) i) B.length (fun _ => True) (fun i hi _ X hX => ?_) (fun _ X => ?_) trivial⟩
  · rw [fr_round, wi64_succ hi (by omega)]
    simp only [Int.toNat_natCast]
    refine Br.of (fun _ => Br.of (fun _ => Br.of (fun _ => ?_) fun c => ?_) fun c => in_f hi c) fun c => lt_f hi c
    · have := hX trivial
      rw [or_byte hB h8 hi]
      exact this
    · have := of_decide_eq_false c
      rw [IntKind.wrap_i64] at this; omega
  · rw [fr_round]
    refine Br.of (fun c => lt_t c) fun _ => ?_
    show afterE frE (keepW frR 0) frF frP 0 K (.exit 0) (frS B (unle (B.take B.length)) B.length)
    rw [fr_after, List.take_length]
    exact hK
def cFrom : List SV → List (Option SB) → KC → Prop
  | [.ro n 1 g], [], K => (∀ i, i < n → isByte (g i) = true) ∧ n ≤ 8 ∧ K (.int .u64 (unle (rowB n g))) [] []
  | _, _, _ => False
theorem from_sat (xs : List SV) (σ : List (Option SB)) : Sat Tryz.prog 86 xs σ (cFrom xs σ) := by
  intro K hK
  unfold cFrom at hK
  split at hK
  · rename_i n g
    obtain ⟨h1, h2, hK⟩ := hK
    refine ⟨_, _, _, hK, callOK_ro1 (bG_rowB h1) ?_⟩
    have e := rowB_len' n g
    have := runL_ok frR (fun _ => 0) w8 2 (v := .int .u64 (unle (rowB n g))) (σ := []) (xs := [.ro (rowB n g).length 1 (bG (rowB n g))]) (k := 86) (σ' := []) (d := []) (fun p hp => by cases hp) fun h3 _ K hK => fr_law _ (bytesOk_ro h3.1.2) (by omega) K (hK _ fun _ h => h)
    rw [e] at this
    exact this
  · exact hK.elim
noncomputable def r0 : Know Tryz.prog := (w8).add 86 cFrom from_sat
end Go.Proofs.YtbedljhbakdghaaGreatDoor

namespace Go.Proofs.YtbedljhbakdghaaGreatDoor
open Go.Se
set_option maxRecDepth 100000
def inB (B : List Int) (s : Rs) : List (Option SB) := [some (.cells 136 (rdC B s))]
theorem num_nf (B : List Int) (s : Rs) (K : KC) : run r0 4 87 [.ptr 0 0] (inB B s) K =
  (Br (s.err != 0) (K (SV.int .i64 0) [some (SB.cells 136 [SV.ro B.length 1 (bG B), SV.int .i64 s.pos, SV.int .i64 s.last, SV.int .i64 s.err, SV.int .i64 s.place])] []) (Br (decide (8 > IntKind.i64.wrap ((↑B.length : Int) - s.pos))) (Br (s.err == 0) (K (SV.int .i64 0) [some (SB.cells 136 [SV.ro B.length 1 (bG B), SV.int .i64 s.pos, SV.int .i64 s.last, SV.int .i64 20, SV.int .i64 (↑B.length : Int)])] [0]) (K (SV.int .i64 0) [some (SB.cells 136 [SV.ro B.length 1 (bG B), SV.int .i64 s.pos, SV.int .i64 s.last, SV.int .i64 s.err, SV.int .i64 s.place])] [])) (Br (decide (0 ≤ s.pos) && (decide (s.pos ≤ IntKind.i64.wrap (s.pos + 8)) && (decide (IntKind.i64.wrap (s.pos + 8) ≤ IntKind.i64.wrap (s.pos + 8)) && decide (IntKind.i64.wrap (s.pos + 8) ≤ (↑B.length : Int))))) (Br (decide (0 < (IntKind.i64.wrap (s.pos + 8)).toNat - s.pos.toNat)) ((∀ (i : Nat), i < (IntKind.i64.wrap (s.pos + 8)).toNat - s.pos.toNat → isByte ((fun (i : Nat) => bG B (i + s.pos.toNat)) i) = true) ∧ (((IntKind.i64.wrap (s.pos + 8)).toNat - s.pos.toNat ≤ 8) ∧ (K (SV.int .i64 (IntKind.i64.wrap (unle (rowB ((IntKind.i64.wrap (s.pos + 8)).toNat - s.pos.toNat) fun (i : Nat) => bG B (i + s.pos.toNat))))) [some (SB.cells 136 [SV.ro B.length 1 (bG B), SV.int .i64 (IntKind.i64.wrap (s.pos + 8)), SV.int .i64 s.pos, SV.int .i64 s.err, SV.int .i64 s.place])] [0]))) (False)) (False)))) := by kernel_rfl
theorem count_nf (lo hi : Int) (B : List Int) (s : Rs) (K : KC) : run r0 4 41 [.ptr 0 0, .int .i64 lo, .int .i64 hi] (inB B s) K =
  (Br (s.err != 0) (K (SV.int .i64 0) [some (SB.cells 136 [SV.ro B.length 1 (bG B), SV.int .i64 s.pos, SV.int .i64 s.last, SV.int .i64 s.err, SV.int .i64 s.place])] []) (Br (decide (2 > IntKind.i64.wrap ((↑B.length : Int) - s.pos))) (Br (s.err == 0) (K (SV.int .i64 0) [some (SB.cells 136 [SV.ro B.length 1 (bG B), SV.int .i64 s.pos, SV.int .i64 s.last, SV.int .i64 20, SV.int .i64 (↑B.length : Int)])] [0]) (K (SV.int .i64 0) [some (SB.cells 136 [SV.ro B.length 1 (bG B), SV.int .i64 s.pos, SV.int .i64 s.last, SV.int .i64 s.err, SV.int .i64 s.place])] [])) (Br (decide (0 ≤ s.pos) && (decide (s.pos ≤ IntKind.i64.wrap (s.pos + 2)) && (decide (IntKind.i64.wrap (s.pos + 2) ≤ IntKind.i64.wrap (s.pos + 2)) && decide (IntKind.i64.wrap (s.pos + 2) ≤ (↑B.length : Int))))) (Br (decide (0 < (IntKind.i64.wrap (s.pos + 2)).toNat - s.pos.toNat)) ((∀ (i : Nat), i < (IntKind.i64.wrap (s.pos + 2)).toNat - s.pos.toNat → isByte ((fun (i : Nat) => bG B (i + s.pos.toNat)) i) = true) ∧ (((IntKind.i64.wrap (s.pos + 2)).toNat - s.pos.toNat ≤ 8) ∧ (Br (decide (IntKind.i64.wrap (unle (rowB ((IntKind.i64.wrap (s.pos + 2)).toNat - s.pos.toNat) fun (i : Nat) => bG B (i + s.pos.toNat))) < lo)) (Br (s.err == 0) (K (SV.int .i64 0) [some (SB.cells 136 [SV.ro B.length 1 (bG B), SV.int .i64 (IntKind.i64.wrap (s.pos + 2)), SV.int .i64 s.pos, SV.int .i64 22, SV.int .i64 s.pos])] [0]) (K (SV.int .i64 0) [some (SB.cells 136 [SV.ro B.length 1 (bG B), SV.int .i64 (IntKind.i64.wrap (s.pos + 2)), SV.int .i64 s.pos, SV.int .i64 s.err, SV.int .i64 s.place])] [0])) (Br (decide (IntKind.i64.wrap (unle (rowB ((IntKind.i64.wrap (s.pos + 2)).toNat - s.pos.toNat) fun (i : Nat) => bG B (i + s.pos.toNat))) > hi)) (Br (s.err == 0) (K (SV.int .i64 0) [some (SB.cells 136 [SV.ro B.length 1 (bG B), SV.int .i64 (IntKind.i64.wrap (s.pos + 2)), SV.int .i64 s.pos, SV.int .i64 22, SV.int .i64 s.pos])] [0]) (K (SV.int .i64 0) [some (SB.cells 136 [SV.ro B.length 1 (bG B), SV.int .i64 (IntKind.i64.wrap (s.pos + 2)), SV.int .i64 s.pos, SV.int .i64 s.err, SV.int .i64 s.place])] [0])) (K (SV.int .i64 (IntKind.i64.wrap (unle (rowB ((IntKind.i64.wrap (s.pos + 2)).toNat - s.pos.toNat) fun (i : Nat) => bG B (i + s.pos.toNat))))) [some (SB.cells 136 [SV.ro B.length 1 (bG B), SV.int .i64 (IntKind.i64.wrap (s.pos + 2)), SV.int .i64 s.pos, SV.int .i64 s.err, SV.int .i64 s.place])] [0]))))) (False)) (False)))) := by kernel_rfl
theorem flag_nf (B : List Int) (s : Rs) (K : KC) : run r0 4 88 [.ptr 0 0] (inB B s) K =
  (Br (s.err != 0) (K (SV.bool false) [some (SB.cells 136 [SV.ro B.length 1 (bG B), SV.int .i64 s.pos, SV.int .i64 s.last, SV.int .i64 s.err, SV.int .i64 s.place])] []) (Br (decide (1 > IntKind.i64.wrap ((↑B.length : Int) - s.pos))) (Br (s.err == 0) (K (SV.bool false) [some (SB.cells 136 [SV.ro B.length 1 (bG B), SV.int .i64 s.pos, SV.int .i64 s.last, SV.int .i64 20, SV.int .i64 (↑B.length : Int)])] [0]) (K (SV.bool false) [some (SB.cells 136 [SV.ro B.length 1 (bG B), SV.int .i64 s.pos, SV.int .i64 s.last, SV.int .i64 s.err, SV.int .i64 s.place])] [])) (Br (decide (0 ≤ s.pos) && (decide (s.pos ≤ IntKind.i64.wrap (s.pos + 1)) && (decide (IntKind.i64.wrap (s.pos + 1) ≤ IntKind.i64.wrap (s.pos + 1)) && decide (IntKind.i64.wrap (s.pos + 1) ≤ (↑B.length : Int))))) (Br (decide (0 < (IntKind.i64.wrap (s.pos + 1)).toNat - s.pos.toNat)) (Br (true && decide (0 < (↑((IntKind.i64.wrap (s.pos + 1)).toNat - s.pos.toNat) : Int))) (Br (decide (B.getD (0 + s.pos.toNat) 0 > 1)) (Br (s.err == 0) (K (SV.bool false) [some (SB.cells 136 [SV.ro B.length 1 (bG B), SV.int .i64 (IntKind.i64.wrap (s.pos + 1)), SV.int .i64 s.pos, SV.int .i64 24, SV.int .i64 s.pos])] [0]) (K (SV.bool false) [some (SB.cells 136 [SV.ro B.length 1 (bG B), SV.int .i64 (IntKind.i64.wrap (s.pos + 1)), SV.int .i64 s.pos, SV.int .i64 s.err, SV.int .i64 s.place])] [0])) (Br (decide (0 < (IntKind.i64.wrap (s.pos + 1)).toNat - s.pos.toNat)) (Br (true && decide (0 < (↑((IntKind.i64.wrap (s.pos + 1)).toNat - s.pos.toNat) : Int))) (K (SV.bool (B.getD (0 + s.pos.toNat) 0 == 1)) [some (SB.cells 136 [SV.ro B.length 1 (bG B), SV.int .i64 (IntKind.i64.wrap (s.pos + 1)), SV.int .i64 s.pos, SV.int .i64 s.err, SV.int .i64 s.place])] [0]) (False)) (False))) (False)) (False)) (False)))) := by kernel_rfl
theorem mark_nf (B : List Int) (s : Rs) (K : KC) : runU 4 r0 4 40 [.ptr 0 0, .str ⟨#[67, 72, 84, 82]⟩] (inB B s) K =
  (Br (s.err != 0) (K (SV.tup []) [some (SB.cells 136 [SV.ro B.length 1 (bG B), SV.int .i64 s.pos, SV.int .i64 s.last, SV.int .i64 s.err, SV.int .i64 s.place])] []) (Br (decide (4 > IntKind.i64.wrap ((↑B.length : Int) - s.pos))) (Br (s.err == 0) (K (SV.tup []) [some (SB.cells 136 [SV.ro B.length 1 (bG B), SV.int .i64 s.pos, SV.int .i64 s.last, SV.int .i64 20, SV.int .i64 (↑B.length : Int)])] [0]) (K (SV.tup []) [some (SB.cells 136 [SV.ro B.length 1 (bG B), SV.int .i64 s.pos, SV.int .i64 s.last, SV.int .i64 s.err, SV.int .i64 s.place])] [])) (Br (decide (0 ≤ s.pos) && (decide (s.pos ≤ IntKind.i64.wrap (s.pos + 4)) && (decide (IntKind.i64.wrap (s.pos + 4) ≤ IntKind.i64.wrap (s.pos + 4)) && decide (IntKind.i64.wrap (s.pos + 4) ≤ (↑B.length : Int))))) (Br (decide (0 < (IntKind.i64.wrap (s.pos + 4)).toNat - s.pos.toNat)) (Br (decide (4 ≤ (IntKind.i64.wrap (s.pos + 4)).toNat - s.pos.toNat)) (Br (!(B.getD (0 + s.pos.toNat) 0 == 67 && (B.getD (1 + s.pos.toNat) 0 == 72 && (B.getD (2 + s.pos.toNat) 0 == 84 && B.getD (3 + s.pos.toNat) 0 == 82)))) (Br (s.err == 0) (K (SV.tup []) [some (SB.cells 136 [SV.ro B.length 1 (bG B), SV.int .i64 (IntKind.i64.wrap (s.pos + 4)), SV.int .i64 s.pos, SV.int .i64 21, SV.int .i64 s.pos])] [0]) (K (SV.tup []) [some (SB.cells 136 [SV.ro B.length 1 (bG B), SV.int .i64 (IntKind.i64.wrap (s.pos + 4)), SV.int .i64 s.pos, SV.int .i64 s.err, SV.int .i64 s.place])] [0])) (K (SV.tup []) [some (SB.cells 136 [SV.ro B.length 1 (bG B), SV.int .i64 (IntKind.i64.wrap (s.pos + 4)), SV.int .i64 s.pos, SV.int .i64 s.err, SV.int .i64 s.place])] [0])) (False)) (False)) (False)))) := by kernel_rfl
theorem refuse_nf (B : List Int) (s : Rs) (K : KC) : run r0 4 89 [.ptr 0 0, .int .i64 40] (inB B s) K =
  (Br (s.err == 0) (K (SV.tup []) [some (SB.cells 136 [SV.ro B.length 1 (bG B), SV.int .i64 s.pos, SV.int .i64 s.last, SV.int .i64 40, SV.int .i64 s.last])] [0]) (K (SV.tup []) [some (SB.cells 136 [SV.ro B.length 1 (bG B), SV.int .i64 s.pos, SV.int .i64 s.last, SV.int .i64 s.err, SV.int .i64 s.place])] [])) := by kernel_rfl
theorem end_nf (B : List Int) (s : Rs) (K : KC) : run r0 4 55 [.ptr 0 0] (inB B s) K =
  (Br (decide (s.pos < (↑B.length : Int))) (Br (s.err == 0) (K (SV.tup [SV.int .i64 23, SV.int .i64 s.pos]) [some (SB.cells 136 [SV.ro B.length 1 (bG B), SV.int .i64 s.pos, SV.int .i64 s.last, SV.int .i64 23, SV.int .i64 s.pos])] [0]) (K (SV.tup [SV.int .i64 s.err, SV.int .i64 s.place]) [some (SB.cells 136 [SV.ro B.length 1 (bG B), SV.int .i64 s.pos, SV.int .i64 s.last, SV.int .i64 s.err, SV.int .i64 s.place])] [])) (K (SV.tup [SV.int .i64 s.err, SV.int .i64 s.place]) [some (SB.cells 136 [SV.ro B.length 1 (bG B), SV.int .i64 s.pos, SV.int .i64 s.last, SV.int .i64 s.err, SV.int .i64 s.place])] [])) := by kernel_rfl
theorem num_law {B : List Int} {s : Rs} (hs : rdOk B s) (hn : B.length < 9223372036854775808) (K : KC) (hK : rdGoal 136 numR (.int .i64) B s K) : run r0 4 87 [.ptr 0 0] (inB B s) K := by
  rw [num_nf]
  refine word_law (k := 8) (kI := 8) rfl (by decide) hs hn (by decide) (fun e => ?_) (fun e => ?_) fun e0 hw hm hp e => ?_
  · exact hK.of (num_none e) (.inr rfl)
  · exact hK.of (num_none e) (.inl rfl)
  · rw [hm, hw]
    refine ⟨fun _ _ => rfl, Nat.le_refl _, ?_⟩
    rw [rowB_drop hp]
    exact hK.of (num_some e) (.inl rfl)
theorem count_law {lo hi : Int} {B : List Int} {s : Rs} (hs : rdOk B s) (hB : bytesOk B) (hn : B.length < 9223372036854775808) (K : KC) (hK : rdGoal 136 (countR lo hi) (.int .i64) B s K) : run r0 4 41 [.ptr 0 0, .int .i64 lo, .int .i64 hi] (inB B s) K := by
  rw [count_nf]
  refine word_law (k := 2) (kI := 2) rfl (by decide) hs hn (by decide) (fun e => ?_) (fun e => ?_) fun e0 hw hm hp e => ?_
  · exact hK.of (count_none e) (.inr rfl)
  · exact hK.of (count_none e) (.inl rfl)
  · rw [hm, hw]
    refine ⟨fun _ _ => rfl, by decide, ?_⟩
    rw [rowB_drop hp]
    have hu := unle_lt (bytesOk_take (bytesOk_drop hB s.pos.toNat) 2)
    have hl : ((B.drop s.pos.toNat).take 2).length = 2 := by rw [List.length_take, List.length_drop]; omega
    rw [hl] at hu
    have hwr : IntKind.i64.wrap (unle ((B.drop s.pos.toNat).take 2)) = unle ((B.drop s.pos.toNat).take 2) := by rw [IntKind.wrap_i64]; omega
    rw [hwr]
    have e' := count_some (lo := lo) (hi := hi) e
    have e0' : (s.err == 0) = true := by rw [e0]; rfl
    refine Br.of (fun c => ?_) fun c => Br.of (fun c2 => ?_) fun c2 => ?_
    · rw [c, Bool.true_or, cond_true, failR_mk e0] at e'
      rw [e0']
      exact hK.of e' (.inl rfl)
    · rw [c, c2, Bool.false_or, cond_true, failR_mk e0] at e'
      rw [e0']
      exact hK.of e' (.inl rfl)
    · rw [c, c2, Bool.false_or, cond_false] at e'
      exact hK.of e' (.inl rfl)
theorem flag_law {B : List Int} {s : Rs} (hs : rdOk B s) (hn : B.length < 9223372036854775808) (K : KC) (hK : rdGoal 136 flagR .bool B s K) : run r0 4 88 [.ptr 0 0] (inB B s) K := by
  rw [flag_nf]
  refine word_law (k := 1) (kI := 1) rfl (by decide) hs hn (by decide) (fun e => ?_) (fun e => ?_) fun e0 hw hm hp e => ?_
  · exact hK.of (flag_none e) (.inr rfl)
  · exact hK.of (flag_none e) (.inl rfl)
  · rw [hm, hw]
    have e' := flag_some e
    rw [take_one hp, unle_one] at e'
    refine Br.of (fun _ => Br.of (fun c => ?_) fun c => ?_) fun c => nomatch c
    · rw [c, cond_true, failR_mk e0] at e'
      rw [show (s.err == 0) = true by rw [e0]; rfl]
      exact hK.of e' (.inl rfl)
    · rw [c, cond_false] at e'
      exact hK.of e' (.inl rfl)
theorem mark_law {B : List Int} {s : Rs} (hs : rdOk B s) (hn : B.length < 9223372036854775808) (K : KC) (hK : rdGoal 136 (markR markB) (fun _ => .tup []) B s K) : runU 4 r0 4 40 [.ptr 0 0, .str ⟨#[67, 72, 84, 82]⟩] (inB B s) K := by
  rw [mark_nf]
  refine word_law (k := 4) (kI := 4) rfl (by decide) hs hn (by decide) (fun e => ?_) (fun e => ?_) fun e0 hw hm hp e => ?_
  · exact hK.of (mark_none e) (.inr rfl)
  · exact hK.of (mark_none e) (.inl rfl)
  · rw [hm, hw]
    have e' := mark_some (m := markB) e
    rw [take_four hp] at e'
    have hq : ([B.getD (0 + s.pos.toNat) 0, B.getD (1 + s.pos.toNat) 0, B.getD (2 + s.pos.toNat) 0, B.getD (3 + s.pos.toNat) 0] == markB) = (B.getD (0 + s.pos.toNat) 0 == 67 && (B.getD (1 + s.pos.toNat) 0 == 72 && (B.getD (2 + s.pos.toNat) 0 == 84 && B.getD (3 + s.pos.toNat) 0 == 82))) := by
      simp [markB]
    rw [hq] at e'
    refine Br.of (fun _ => Br.of (fun c => ?_) fun c => ?_) fun c => nomatch c
    · rw [Bool.not_eq_true'] at c
      rw [c, cond_false, failR_mk e0] at e'
      rw [show (s.err == 0) = true by rw [e0]; rfl]
      exact hK.of e' (.inl rfl)
    · rw [Bool.not_eq_false'] at c
      rw [c, cond_true] at e'
      exact hK.of e' (.inl rfl)
theorem refuse_law {B : List Int} {s : Rs} (K : KC) (hK : rdGoal 136 (fun _ => refuseR 40) (fun _ => .tup []) B s K) : run r0 4 89 [.ptr 0 0, .int .i64 40] (inB B s) K := by
  rw [refuse_nf]
  have e : refuseR 40 s = ((), bif s.err == 0 then ⟨s.pos, s.last, 40, s.last⟩ else s) := rfl
  refine Br.of (fun c => ?_) fun c => ?_
  · rw [c] at e; exact rdGoal.of (rd := fun _ => refuseR 40) hK e (.inl rfl)
  · rw [c] at e; exact rdGoal.of (rd := fun _ => refuseR 40) hK e (.inr rfl)
theorem end_law {B : List Int} {s : Rs} (K : KC) (hK : rdGoal 136 endR (fun x => .tup [.int .i64 x.1, .int .i64 x.2]) B s K) : run r0 4 55 [.ptr 0 0] (inB B s) K := by
  rw [end_nf]
  refine Br.of (fun c => Br.of (fun c2 => ?_) fun c2 => ?_) fun c => ?_
  · have e : endR B s = ((23, s.pos), ⟨s.pos, s.last, 23, s.pos⟩) := by unfold endR failR; simp only [c, c2, cond_true]
    exact rdGoal.of hK e (.inl rfl)
  · have e : endR B s = ((s.err, s.place), s) := by unfold endR failR; simp only [c, c2, cond_true, cond_false]
    exact rdGoal.of hK e (.inr rfl)
  · have e : endR B s = ((s.err, s.place), s) := by unfold endR; simp only [c, cond_false]
    exact rdGoal.of hK e (.inr rfl)
def pNum {α : Type} (rd : List Int → Rs → α × Rs) : List SV → Option (List Int → Rs → α × Rs)
  | [.ptr 0 0] => some rd
  | _ => none
def pCount : List SV → Option (List Int → Rs → Int × Rs)
  | [.ptr 0 0, .int .i64 lo, .int .i64 hi] => some (countR lo hi)
  | _ => none
def pMark : List SV → Option (List Int → Rs → Unit × Rs)
  | [.ptr 0 0, .str s] => bif s.data == #[67, 72, 84, 82] then some (markR markB) else none
  | _ => none
def pRefuse : List SV → Option (List Int → Rs → Unit × Rs)
  | [.ptr 0 0, .int .i64 e] => bif e == 40 then some (fun _ => refuseR 40) else none
  | _ => none
def cNum : List SV → List (Option SB) → KC → Prop := cRd 136 (.int .i64) (pNum numR)
def cCount : List SV → List (Option SB) → KC → Prop := cRd 136 (.int .i64) pCount
def cFlag : List SV → List (Option SB) → KC → Prop := cRd 136 .bool (pNum flagR)
def cMark : List SV → List (Option SB) → KC → Prop := cRd 136 (fun _ => .tup []) pMark
def cRefuse : List SV → List (Option SB) → KC → Prop := cRd 136 (fun _ => .tup []) pRefuse
def cEnd : List SV → List (Option SB) → KC → Prop := cRd 136 (fun x => .tup [.int .i64 x.1, .int .i64 x.2]) (pNum endR)
theorem pNum_eq {α : Type} {r rd : List Int → Rs → α × Rs} {xs : List SV} (h : pNum r xs = some rd) : xs = [.ptr 0 0] ∧ rd = r := by
  unfold pNum at h; split at h
  · cases h; exact ⟨rfl, rfl⟩
  · cases h
theorem rd_run {u n : Nat} {B : Know Tryz.prog} {k : FuncId} {xs : List SV} {σ : List (Option SB)} {α : Type} {T : TypeId} {rd : List Int → Rs → α × Rs} {sv : α → SV} {b : List Int} {s : Rs}
    (hσ : σ = [some (.cells T (rdC b s))]) (h : okS σ → ∀ K : KC, rdGoal T rd sv b s K → calls (tab.env B (fun _ => u) (fun _ => false)) (keepW []) B.dom n k xs σ K) : CallOK Tryz.prog k xs σ (sv (rd b s).1) [some (.cells T (rdC b (rd b s).2))] [0] :=
  callOK_of_callsD (R := []) tab B (fun p hp => by rw [hσ]; simp at hp ⊢; omega) fun _ h2 => h h2 _ fun _ hd => ⟨rfl, rfl, hd⟩
theorem num_sat (xs : List SV) (σ : List (Option SB)) : Sat Tryz.prog 87 xs σ (cNum xs σ) :=
  cRd_sat (fun xs rd hp B s hs => by
    obtain ⟨rfl, rfl⟩ := pNum_eq hp
    exact rd_run (u := 0) (n := 4) (B := r0) rfl fun h2 K hK => num_law hs (okS_rd h2).2 K hK) xs σ
theorem flag_sat (xs : List SV) (σ : List (Option SB)) : Sat Tryz.prog 88 xs σ (cFlag xs σ) :=
  cRd_sat (fun xs rd hp B s hs => by
    obtain ⟨rfl, rfl⟩ := pNum_eq hp
    exact rd_run (u := 0) (n := 4) (B := r0) rfl fun h2 K hK => flag_law hs (okS_rd h2).2 K hK) xs σ
theorem end_sat (xs : List SV) (σ : List (Option SB)) : Sat Tryz.prog 55 xs σ (cEnd xs σ) :=
  cRd_sat (fun xs rd hp B s hs => by
    obtain ⟨rfl, rfl⟩ := pNum_eq hp
    exact rd_run (u := 0) (n := 4) (B := r0) rfl fun h2 K hK => end_law K hK) xs σ
theorem count_sat (xs : List SV) (σ : List (Option SB)) : Sat Tryz.prog 41 xs σ (cCount xs σ) :=
  cRd_sat (fun xs rd hp B s hs => by
    unfold pCount at hp; split at hp
    · cases hp
      exact rd_run (u := 0) (n := 4) (B := r0) rfl fun h2 K hK => count_law hs (okS_rd h2).1 (okS_rd h2).2 K hK
    · cases hp) xs σ
theorem refuse_sat (xs : List SV) (σ : List (Option SB)) : Sat Tryz.prog 89 xs σ (cRefuse xs σ) :=
  cRd_sat (fun xs rd hp B s hs => by
    unfold pRefuse at hp; split at hp
    · rename_i e
      cases he : e == 40 with
      | false => rw [he] at hp; cases hp
      | true =>
        rw [he] at hp; cases hp
        obtain rfl := eq_of_beq he
        exact rd_run (rd := fun _ => refuseR 40) (u := 0) (n := 4) (B := r0) rfl fun h2 K hK => refuse_law K hK
    · cases hp) xs σ
theorem mark_sat (xs : List SV) (σ : List (Option SB)) : Sat Tryz.prog 40 xs σ (cMark xs σ) :=
  cRd_sat (fun xs rd hp B s hs => by
    unfold pMark at hp; split at hp
    · rename_i x
      obtain ⟨da⟩ := x
      cases he : da == #[67, 72, 84, 82] with
      | false => simp only [he, cond_false] at hp; cases hp
      | true =>
        simp only [he, cond_true] at hp; cases hp
        obtain rfl := eq_of_beq he
        exact rd_run (rd := markR markB) (u := 4) (n := 4) (B := r0) rfl fun h2 K hK => mark_law hs (okS_rd h2).2 K hK
    · cases hp) xs σ
noncomputable def r1 : Know Tryz.prog := ((((((r0).add 87 cNum num_sat).add 41 cCount count_sat).add 88 cFlag flag_sat).add 40 cMark mark_sat).add 89 cRefuse refuse_sat).add 55 cEnd end_sat
end Go.Proofs.YtbedljhbakdghaaGreatDoor

namespace Go.Proofs.YtbedljhbakdghaaGreatDoor
open Go.Se
set_option maxRecDepth 100000
theorem vfx_nf (B : List Int) (s : Rs) (K : KC) : run r1 3 42 [.agg [.ptr 0 0]] (inB B s) K =
  (rdS (numR) B s fun (a88 : Int) (s87 : Rs) => K (SV.int .i64 a88) [some (SB.cells 136 (rdC B s87))] [0]) := by kernel_rfl
theorem vground_nf (B : List Int) (s : Rs) (K : KC) : run r1 3 46 [.agg [.ptr 0 0]] (inB B s) K =
  (rdS (countR 0 7) B s fun (a88 : Int) (s87 : Rs) => K (SV.int .i64 a88) [some (SB.cells 136 (rdC B s87))] [0]) := by kernel_rfl
theorem vhead_nf (B : List Int) (s : Rs) (K : KC) : run r1 3 54 [.agg [.ptr 0 0]] (inB B s) K =
  (rdS (numR) B s fun (a88 : Int) (s87 : Rs) => Br (a88 != IntKind.i64.wrap (IntKind.u32.wrap a88)) (rdS ((fun (x : List Int) => refuseR 40)) B s87 fun (a82 : Unit) (s81 : Rs) => K (SV.int .u32 (IntKind.u32.wrap a88)) [some (SB.cells 136 (rdC B s81))] [0]) (K (SV.int .u32 (IntKind.u32.wrap a88)) [some (SB.cells 136 (rdC B s87))] [0])) := by kernel_rfl
theorem vplace_nf (B : List Int) (s : Rs) (K : KC) : run r1 3 43 [.agg [.ptr 0 0]] (inB B s) K =
  (rdS (numR) B s fun (a88 : Int) (s87 : Rs) => rdS (numR) B s87 fun (a83 : Int) (s82 : Rs) => K (SV.agg [SV.int .i64 a88, SV.int .i64 a83]) [some (SB.cells 136 (rdC B s82))] [0]) := by kernel_rfl
theorem vkind_nf (B : List Int) (s : Rs) (K : KC) : run r1 3 48 [.agg [.ptr 0 0]] (inB B s) K =
  (rdS (numR) B s fun (a88 : Int) (s87 : Rs) => rdS (numR) B s87 fun (a83 : Int) (s82 : Rs) => rdS (flagR) B s82 fun (a78 : Bool) (s77 : Rs) => K (SV.agg [SV.int .i64 a88, SV.int .i64 a83, SV.bool a78]) [some (SB.cells 136 (rdC B s77))] [0]) := by kernel_rfl
theorem vgate_nf (B : List Int) (s : Rs) (K : KC) : run r1 3 53 [.agg [.ptr 0 0]] (inB B s) K =
  (rdS (numR) B s fun (a88 : Int) (s87 : Rs) => rdS (numR) B s87 fun (a83 : Int) (s82 : Rs) => rdS (numR) B s82 fun (a78 : Int) (s77 : Rs) => rdS (numR) B s77 fun (a73 : Int) (s72 : Rs) => rdS (flagR) B s72 fun (a68 : Bool) (s67 : Rs) => K (SV.agg [SV.int .i64 a88, SV.int .i64 a83, SV.int .i64 a78, SV.int .i64 a73, SV.bool a68]) [some (SB.cells 136 (rdC B s67))] [0]) := by kernel_rfl
def pRd {α : Type} (rd : List Int → Rs → α × Rs) : List SV → Option (List Int → Rs → α × Rs)
  | [.agg [.ptr 0 0]] => some rd
  | _ => none
theorem pRd_eq {α : Type} {r rd : List Int → Rs → α × Rs} {xs : List SV} (h : pRd r xs = some rd) : xs = [.agg [.ptr 0 0]] ∧ rd = r := by
  unfold pRd at h; split at h
  · cases h; exact ⟨rfl, rfl⟩
  · cases h
def plSV (x : Int × Int) : SV := .agg [.int .i64 x.1, .int .i64 x.2]
def kiSV (x : Int × Int × Bool) : SV := .agg [.int .i64 x.1, .int .i64 x.2.1, .bool x.2.2]
def gaSV (x : Int × Int × Int × Int × Bool) : SV := .agg [.int .i64 x.1, .int .i64 x.2.1, .int .i64 x.2.2.1, .int .i64 x.2.2.2.1, .bool x.2.2.2.2]
def cVFx : List SV → List (Option SB) → KC → Prop := cRd 136 (.int .i64) (pRd numR)
def cVGround : List SV → List (Option SB) → KC → Prop := cRd 136 (.int .i64) (pRd (countR 0 7))
def cVHead : List SV → List (Option SB) → KC → Prop := cRd 136 (.int .u32) (pRd headR)
def cVPlace : List SV → List (Option SB) → KC → Prop := cRd 136 plSV (pRd placeR)
def cVKind : List SV → List (Option SB) → KC → Prop := cRd 136 kiSV (pRd kindR)
def cVGate : List SV → List (Option SB) → KC → Prop := cRd 136 gaSV (pRd gateR)
theorem vfx_sat (xs : List SV) (σ : List (Option SB)) : Sat Tryz.prog 42 xs σ (cVFx xs σ) :=
  cRd_sat (fun xs rd hp B s hs => by
    obtain ⟨rfl, rfl⟩ := pRd_eq hp
    exact rd_run (u := 0) (n := 3) (B := r1) rfl fun _ K hK => by
      show run r1 3 _ _ (inB B s) K
      rw [vfx_nf]
      exact rd_step reads_num hs fun a s1 e1 h1 => hK.of e1 (.inl rfl)) xs σ
theorem vground_sat (xs : List SV) (σ : List (Option SB)) : Sat Tryz.prog 46 xs σ (cVGround xs σ) :=
  cRd_sat (fun xs rd hp B s hs => by
    obtain ⟨rfl, rfl⟩ := pRd_eq hp
    exact rd_run (u := 0) (n := 3) (B := r1) rfl fun _ K hK => by
      show run r1 3 _ _ (inB B s) K
      rw [vground_nf]
      exact rd_step (reads_count 0 7) hs fun a s1 e1 h1 => hK.of e1 (.inl rfl)) xs σ
theorem vplace_sat (xs : List SV) (σ : List (Option SB)) : Sat Tryz.prog 43 xs σ (cVPlace xs σ) :=
  cRd_sat (fun xs rd hp B s hs => by
    obtain ⟨rfl, rfl⟩ := pRd_eq hp
    exact rd_run (u := 0) (n := 3) (B := r1) rfl fun _ K hK => by
      show run r1 3 _ _ (inB B s) K
      rw [vplace_nf]
      exact rd_step reads_num hs fun a s1 e1 h1 => rd_step reads_num h1 fun b s2 e2 h2 => hK.of (thenR_eq e1 e2) (.inl rfl)) xs σ
theorem vkind_sat (xs : List SV) (σ : List (Option SB)) : Sat Tryz.prog 48 xs σ (cVKind xs σ) :=
  cRd_sat (fun xs rd hp B s hs => by
    obtain ⟨rfl, rfl⟩ := pRd_eq hp
    exact rd_run (u := 0) (n := 3) (B := r1) rfl fun _ K hK => by
      show run r1 3 _ _ (inB B s) K
      rw [vkind_nf]
      exact rd_step reads_num hs fun a s1 e1 h1 => rd_step reads_num h1 fun b s2 e2 h2 => rd_step reads_flag h2 fun c s3 e3 h3 => hK.of (thenR_eq e1 (thenR_eq e2 e3)) (.inl rfl)) xs σ
theorem vgate_sat (xs : List SV) (σ : List (Option SB)) : Sat Tryz.prog 53 xs σ (cVGate xs σ) :=
  cRd_sat (fun xs rd hp B s hs => by
    obtain ⟨rfl, rfl⟩ := pRd_eq hp
    exact rd_run (u := 0) (n := 3) (B := r1) rfl fun _ K hK => by
      show run r1 3 _ _ (inB B s) K
      rw [vgate_nf]
      exact rd_step reads_num hs fun a s1 e1 h1 => rd_step reads_num h1 fun b s2 e2 h2 => rd_step reads_num h2 fun c s3 e3 h3 => rd_step reads_num h3 fun d s4 e4 h4 => rd_step reads_flag h4 fun e s5 e5 h5 =>
        hK.of (thenR_eq (thenR_eq e1 e2) (thenR_eq (thenR_eq e3 e4) e5)) (.inl rfl)) xs σ
theorem vhead_sat (xs : List SV) (σ : List (Option SB)) : Sat Tryz.prog 54 xs σ (cVHead xs σ) :=
  cRd_sat (fun xs rd hp B s hs => by
    obtain ⟨rfl, rfl⟩ := pRd_eq hp
    exact rd_run (u := 0) (n := 3) (B := r1) rfl fun _ K hK => by
      show run r1 3 _ _ (inB B s) K
      rw [vhead_nf]
      refine rd_step reads_num hs fun a s1 e1 h1 => ?_
      have ha : -9223372036854775808 ≤ a ∧ a ≤ 9223372036854775807 := by
        have := num_range B s; rw [e1] at this; exact this
      have hw : IntKind.i64.wrap (IntKind.u32.wrap a) = a % 4294967296 := by rw [wu32, IntKind.wrap_i64]; omega
      rw [hw]
      refine Br.of (fun c => ?_) fun c => ?_
      · have hc : (decide (a < 0) || decide (a > 4294967295)) = true := by
          have := bne_iff_ne.1 c
          simp only [Bool.or_eq_true, decide_eq_true_eq]; omega
        refine rd_step (reads_refuse 40) h1 fun _ s2 e2 h2 => ?_
        have e : headR B s = (IntKind.u32.wrap a, s2) := by
          unfold headR; simp only [e1, hc, cond_true]; rw [e2]
        exact hK.of e (.inl rfl)
      · have hc : (decide (a < 0) || decide (a > 4294967295)) = false := by
          have := bne_eq_false_iff_eq.1 c
          simp only [Bool.or_eq_false_iff, decide_eq_false_iff_not]; omega
        have e : headR B s = (IntKind.u32.wrap a, s1) := by
          unfold headR; simp only [e1, hc, cond_false]
          have := bne_eq_false_iff_eq.1 c
          rw [wu32, ← this]
        exact hK.of e (.inl rfl)) xs σ
noncomputable def r2 : Know Tryz.prog := ((((((r1).add 42 cVFx vfx_sat).add 46 cVGround vground_sat).add 43 cVPlace vplace_sat).add 48 cVKind vkind_sat).add 53 cVGate vgate_sat).add 54 cVHead vhead_sat
end Go.Proofs.YtbedljhbakdghaaGreatDoor

