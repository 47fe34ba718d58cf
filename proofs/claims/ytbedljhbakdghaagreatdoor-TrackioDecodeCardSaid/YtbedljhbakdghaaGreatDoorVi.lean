import Derived.Test.YtbedljhbakdghaaGreatDoorVh
import Derived.Test.YtbedljhbakdghaaGreatDoorSeBm
import Derived.Test.YtbedljhbakdghaaGreatDoorSeFz
namespace Go.Proofs.YtbedljhbakdghaaGreatDoor
open Go.Se
set_option maxRecDepth 100000
def xinB (B : List Int) (s : Rs) : List (Option SB) := [some (.cells 99 (rdC B s))]
theorem xnum_nf (B : List Int) (s : Rs) (K : KC) : runU 9 ra 4 61 [.ptr 0 0] (xinB B s) K =
  (Br (s.err != 0) (K (SV.int .i64 0) [some (SB.cells 99 [SV.ro B.length 1 (bG B), SV.int .i64 s.pos, SV.int .i64 s.last, SV.int .i64 s.err, SV.int .i64 s.place])] []) (Br (decide (IntKind.i64.wrap ((↑B.length : Int) - s.pos) < 8)) (Br (s.err == 0) (K (SV.int .i64 0) [some (SB.cells 99 [SV.ro B.length 1 (bG B), SV.int .i64 s.pos, SV.int .i64 s.last, SV.int .i64 20, SV.int .i64 (↑B.length : Int)])] [0]) (K (SV.int .i64 0) [some (SB.cells 99 [SV.ro B.length 1 (bG B), SV.int .i64 s.pos, SV.int .i64 s.last, SV.int .i64 s.err, SV.int .i64 s.place])] [])) (Br (decide (0 ≤ s.pos) && (decide (s.pos ≤ IntKind.i64.wrap (s.pos + 8)) && decide (IntKind.i64.wrap (s.pos + 8) ≤ (↑B.length : Int)))) (Br (true && decide (7 < (↑((IntKind.i64.wrap (s.pos + 8)).toNat - s.pos.toNat) : Int))) (Br (true && decide (6 < (↑((IntKind.i64.wrap (s.pos + 8)).toNat - s.pos.toNat) : Int))) (Br (true && decide (5 < (↑((IntKind.i64.wrap (s.pos + 8)).toNat - s.pos.toNat) : Int))) (Br (true && decide (4 < (↑((IntKind.i64.wrap (s.pos + 8)).toNat - s.pos.toNat) : Int))) (Br (true && decide (3 < (↑((IntKind.i64.wrap (s.pos + 8)).toNat - s.pos.toNat) : Int))) (Br (true && decide (2 < (↑((IntKind.i64.wrap (s.pos + 8)).toNat - s.pos.toNat) : Int))) (Br (true && decide (1 < (↑((IntKind.i64.wrap (s.pos + 8)).toNat - s.pos.toNat) : Int))) (Br (true && decide (0 < (↑((IntKind.i64.wrap (s.pos + 8)).toNat - s.pos.toNat) : Int))) (K (SV.int .i64 (IntKind.i64.wrap (IntKind.u64.wrap (IntKind.u64.wrap (IntKind.u64.wrap (IntKind.u64.wrap (IntKind.u64.wrap (IntKind.u64.wrap (IntKind.u64.wrap (IntKind.u64.wrap (IntKind.u64.wrap (IntKind.u64.wrap (IntKind.u64.wrap (IntKind.u64.wrap (IntKind.u64.wrap (IntKind.u64.wrap (IntKind.u64.wrap (0 + IntKind.u64.wrap (B.getD (7 + s.pos.toNat) 0)) * 256) + IntKind.u64.wrap (B.getD (6 + s.pos.toNat) 0)) * 256) + IntKind.u64.wrap (B.getD (5 + s.pos.toNat) 0)) * 256) + IntKind.u64.wrap (B.getD (4 + s.pos.toNat) 0)) * 256) + IntKind.u64.wrap (B.getD (3 + s.pos.toNat) 0)) * 256) + IntKind.u64.wrap (B.getD (2 + s.pos.toNat) 0)) * 256) + IntKind.u64.wrap (B.getD (1 + s.pos.toNat) 0)) * 256) + IntKind.u64.wrap (B.getD (0 + s.pos.toNat) 0))))) [some (SB.cells 99 [SV.ro B.length 1 (bG B), SV.int .i64 (IntKind.i64.wrap (s.pos + 8)), SV.int .i64 s.pos, SV.int .i64 s.err, SV.int .i64 s.place])] [0]) (False)) (False)) (False)) (False)) (False)) (False)) (False)) (False)) (False)))) := by kernel_rfl
theorem xcount_nf (lo hi : Int) (B : List Int) (s : Rs) (K : KC) : run ra 4 58 [.ptr 0 0, .int .i64 lo, .int .i64 hi] (xinB B s) K =
  (Br (s.err != 0) (K (SV.int .i64 0) [some (SB.cells 99 [SV.ro B.length 1 (bG B), SV.int .i64 s.pos, SV.int .i64 s.last, SV.int .i64 s.err, SV.int .i64 s.place])] []) (Br (decide (IntKind.i64.wrap ((↑B.length : Int) - s.pos) < 2)) (Br (s.err == 0) (K (SV.int .i64 0) [some (SB.cells 99 [SV.ro B.length 1 (bG B), SV.int .i64 s.pos, SV.int .i64 s.last, SV.int .i64 20, SV.int .i64 (↑B.length : Int)])] [0]) (K (SV.int .i64 0) [some (SB.cells 99 [SV.ro B.length 1 (bG B), SV.int .i64 s.pos, SV.int .i64 s.last, SV.int .i64 s.err, SV.int .i64 s.place])] [])) (Br (decide (0 ≤ s.pos) && (decide (s.pos ≤ IntKind.i64.wrap (s.pos + 2)) && decide (IntKind.i64.wrap (s.pos + 2) ≤ (↑B.length : Int)))) (Br (true && decide (0 < (↑((IntKind.i64.wrap (s.pos + 2)).toNat - s.pos.toNat) : Int))) (Br (true && decide (1 < (↑((IntKind.i64.wrap (s.pos + 2)).toNat - s.pos.toNat) : Int))) (Br (decide (IntKind.i64.wrap (IntKind.i64.wrap (B.getD (0 + s.pos.toNat) 0) + IntKind.i64.wrap (256 * IntKind.i64.wrap (B.getD (1 + s.pos.toNat) 0))) < lo)) (Br (s.err == 0) (K (SV.int .i64 0) [some (SB.cells 99 [SV.ro B.length 1 (bG B), SV.int .i64 (IntKind.i64.wrap (s.pos + 2)), SV.int .i64 s.pos, SV.int .i64 22, SV.int .i64 s.pos])] [0]) (K (SV.int .i64 0) [some (SB.cells 99 [SV.ro B.length 1 (bG B), SV.int .i64 (IntKind.i64.wrap (s.pos + 2)), SV.int .i64 s.pos, SV.int .i64 s.err, SV.int .i64 s.place])] [0])) (Br (decide (IntKind.i64.wrap (IntKind.i64.wrap (B.getD (0 + s.pos.toNat) 0) + IntKind.i64.wrap (256 * IntKind.i64.wrap (B.getD (1 + s.pos.toNat) 0))) > hi)) (Br (s.err == 0) (K (SV.int .i64 0) [some (SB.cells 99 [SV.ro B.length 1 (bG B), SV.int .i64 (IntKind.i64.wrap (s.pos + 2)), SV.int .i64 s.pos, SV.int .i64 22, SV.int .i64 s.pos])] [0]) (K (SV.int .i64 0) [some (SB.cells 99 [SV.ro B.length 1 (bG B), SV.int .i64 (IntKind.i64.wrap (s.pos + 2)), SV.int .i64 s.pos, SV.int .i64 s.err, SV.int .i64 s.place])] [0])) (K (SV.int .i64 (IntKind.i64.wrap (IntKind.i64.wrap (B.getD (0 + s.pos.toNat) 0) + IntKind.i64.wrap (256 * IntKind.i64.wrap (B.getD (1 + s.pos.toNat) 0))))) [some (SB.cells 99 [SV.ro B.length 1 (bG B), SV.int .i64 (IntKind.i64.wrap (s.pos + 2)), SV.int .i64 s.pos, SV.int .i64 s.err, SV.int .i64 s.place])] [0]))) (False)) (False)) (False)))) := by kernel_rfl
theorem xflag_nf (B : List Int) (s : Rs) (K : KC) : run ra 4 60 [.ptr 0 0] (xinB B s) K =
  (Br (s.err != 0) (K (SV.bool false) [some (SB.cells 99 [SV.ro B.length 1 (bG B), SV.int .i64 s.pos, SV.int .i64 s.last, SV.int .i64 s.err, SV.int .i64 s.place])] []) (Br (decide (IntKind.i64.wrap ((↑B.length : Int) - s.pos) < 1)) (Br (s.err == 0) (K (SV.bool false) [some (SB.cells 99 [SV.ro B.length 1 (bG B), SV.int .i64 s.pos, SV.int .i64 s.last, SV.int .i64 20, SV.int .i64 (↑B.length : Int)])] [0]) (K (SV.bool false) [some (SB.cells 99 [SV.ro B.length 1 (bG B), SV.int .i64 s.pos, SV.int .i64 s.last, SV.int .i64 s.err, SV.int .i64 s.place])] [])) (Br (decide (0 ≤ s.pos) && (decide (s.pos ≤ IntKind.i64.wrap (s.pos + 1)) && decide (IntKind.i64.wrap (s.pos + 1) ≤ (↑B.length : Int)))) (Br (true && decide (0 < (↑((IntKind.i64.wrap (s.pos + 1)).toNat - s.pos.toNat) : Int))) (Br (decide (B.getD (0 + s.pos.toNat) 0 > 1)) (Br (s.err == 0) (K (SV.bool false) [some (SB.cells 99 [SV.ro B.length 1 (bG B), SV.int .i64 (IntKind.i64.wrap (s.pos + 1)), SV.int .i64 s.pos, SV.int .i64 24, SV.int .i64 s.pos])] [0]) (K (SV.bool false) [some (SB.cells 99 [SV.ro B.length 1 (bG B), SV.int .i64 (IntKind.i64.wrap (s.pos + 1)), SV.int .i64 s.pos, SV.int .i64 s.err, SV.int .i64 s.place])] [0])) (Br (true && decide (0 < (↑((IntKind.i64.wrap (s.pos + 1)).toNat - s.pos.toNat) : Int))) (K (SV.bool (B.getD (0 + s.pos.toNat) 0 == 1)) [some (SB.cells 99 [SV.ro B.length 1 (bG B), SV.int .i64 (IntKind.i64.wrap (s.pos + 1)), SV.int .i64 s.pos, SV.int .i64 s.err, SV.int .i64 s.place])] [0]) (False))) (False)) (False)))) := by kernel_rfl
theorem xmark_nf (B : List Int) (s : Rs) (K : KC) : runU 4 ra 4 90 [.ptr 0 0, .str ⟨#[67, 72, 84, 82]⟩] (xinB B s) K =
  (Br (s.err != 0) (K (SV.tup []) [some (SB.cells 99 [SV.ro B.length 1 (bG B), SV.int .i64 s.pos, SV.int .i64 s.last, SV.int .i64 s.err, SV.int .i64 s.place])] []) (Br (decide (IntKind.i64.wrap ((↑B.length : Int) - s.pos) < 4)) (Br (s.err == 0) (K (SV.tup []) [some (SB.cells 99 [SV.ro B.length 1 (bG B), SV.int .i64 s.pos, SV.int .i64 s.last, SV.int .i64 20, SV.int .i64 (↑B.length : Int)])] [0]) (K (SV.tup []) [some (SB.cells 99 [SV.ro B.length 1 (bG B), SV.int .i64 s.pos, SV.int .i64 s.last, SV.int .i64 s.err, SV.int .i64 s.place])] [])) (Br (decide (0 ≤ s.pos) && (decide (s.pos ≤ IntKind.i64.wrap (s.pos + 4)) && decide (IntKind.i64.wrap (s.pos + 4) ≤ (↑B.length : Int)))) ((∀ (i : Nat), i < (IntKind.i64.wrap (s.pos + 4)).toNat - s.pos.toNat → isByte ((fun (i : Nat) => bG B (i + s.pos.toNat)) i) = true) ∧ (Br (decide ((IntKind.i64.wrap (s.pos + 4)).toNat - s.pos.toNat < 9223372036854775808)) ((∀ (i : Nat), i < markB.length → isByte (bG markB i) = true) ∧ (Br (!bytesOf (rowB ((IntKind.i64.wrap (s.pos + 4)).toNat - s.pos.toNat) fun (i : Nat) => bG B (i + s.pos.toNat)) == bytesOf (rowB markB.length (bG markB))) (Br (s.err == 0) (K (SV.tup []) [some (SB.cells 99 [SV.ro B.length 1 (bG B), SV.int .i64 (IntKind.i64.wrap (s.pos + 4)), SV.int .i64 s.pos, SV.int .i64 21, SV.int .i64 s.pos])] [0]) (K (SV.tup []) [some (SB.cells 99 [SV.ro B.length 1 (bG B), SV.int .i64 (IntKind.i64.wrap (s.pos + 4)), SV.int .i64 s.pos, SV.int .i64 s.err, SV.int .i64 s.place])] [0])) (K (SV.tup []) [some (SB.cells 99 [SV.ro B.length 1 (bG B), SV.int .i64 (IntKind.i64.wrap (s.pos + 4)), SV.int .i64 s.pos, SV.int .i64 s.err, SV.int .i64 s.place])] [0]))) (False))) (False)))) := by kernel_rfl
theorem xrefuse_nf (B : List Int) (s : Rs) (K : KC) : run ra 4 62 [.ptr 0 0, .int .i64 40] (xinB B s) K =
  (Br (s.err == 0) (K (SV.tup []) [some (SB.cells 99 [SV.ro B.length 1 (bG B), SV.int .i64 s.pos, SV.int .i64 s.last, SV.int .i64 40, SV.int .i64 s.last])] [0]) (K (SV.tup []) [some (SB.cells 99 [SV.ro B.length 1 (bG B), SV.int .i64 s.pos, SV.int .i64 s.last, SV.int .i64 s.err, SV.int .i64 s.place])] [])) := by kernel_rfl
theorem xend_nf (B : List Int) (s : Rs) (K : KC) : run ra 4 63 [.ptr 0 0] (xinB B s) K =
  (Br (s.err == 0) (Br (decide (s.pos < (↑B.length : Int))) (Br (s.err == 0) (K (SV.tup [SV.int .i64 23, SV.int .i64 s.pos]) [some (SB.cells 99 [SV.ro B.length 1 (bG B), SV.int .i64 s.pos, SV.int .i64 s.last, SV.int .i64 23, SV.int .i64 s.pos])] [0]) (K (SV.tup [SV.int .i64 s.err, SV.int .i64 s.place]) [some (SB.cells 99 [SV.ro B.length 1 (bG B), SV.int .i64 s.pos, SV.int .i64 s.last, SV.int .i64 s.err, SV.int .i64 s.place])] [])) (K (SV.tup [SV.int .i64 s.err, SV.int .i64 s.place]) [some (SB.cells 99 [SV.ro B.length 1 (bG B), SV.int .i64 s.pos, SV.int .i64 s.last, SV.int .i64 s.err, SV.int .i64 s.place])] [])) (K (SV.tup [SV.int .i64 s.err, SV.int .i64 s.place]) [some (SB.cells 99 [SV.ro B.length 1 (bG B), SV.int .i64 s.pos, SV.int .i64 s.last, SV.int .i64 s.err, SV.int .i64 s.place])] [])) := by kernel_rfl
theorem xnum_law {B : List Int} {s : Rs} (hs : rdOk B s) (hB : bytesOk B) (hn : B.length < 9223372036854775808) (K : KC) (hK : rdGoal 99 numR (.int .i64) B s K) : runU 9 ra 4 61 [.ptr 0 0] (xinB B s) K := by
  rw [xnum_nf]
  refine xword_law (k := 8) (kI := 8) rfl hs hn (by decide) (fun e => ?_) (fun e => ?_) fun e0 hw hm hp e => ?_
  · exact hK.of (num_none e) (.inr rfl)
  · exact hK.of (num_none e) (.inl rfl)
  · rw [hm, hw, num_words (bytesOk_getD hB _) (bytesOk_getD hB _) (bytesOk_getD hB _) (bytesOk_getD hB _) (bytesOk_getD hB _) (bytesOk_getD hB _) (bytesOk_getD hB _) (bytesOk_getD hB _)]
    have e' := num_some e
    rw [take_eight hp] at e'
    exact hK.of e' (.inl rfl)
theorem xcount_law {lo hi : Int} {B : List Int} {s : Rs} (hs : rdOk B s) (hB : bytesOk B) (hn : B.length < 9223372036854775808) (K : KC) (hK : rdGoal 99 (countR lo hi) (.int .i64) B s K) : run ra 4 58 [.ptr 0 0, .int .i64 lo, .int .i64 hi] (xinB B s) K := by
  rw [xcount_nf]
  refine xword_law (k := 2) (kI := 2) rfl hs hn (by decide) (fun e => ?_) (fun e => ?_) fun e0 hw hm hp e => ?_
  · exact hK.of (count_none e) (.inr rfl)
  · exact hK.of (count_none e) (.inl rfl)
  · rw [hm, hw]
    have h0 := bytesOk_getD hB (0 + s.pos.toNat)
    have h1 := bytesOk_getD hB (1 + s.pos.toNat)
    have hu : IntKind.i64.wrap (IntKind.i64.wrap (B.getD (0 + s.pos.toNat) 0) + IntKind.i64.wrap (256 * IntKind.i64.wrap (B.getD (1 + s.pos.toNat) 0))) = unle [B.getD (0 + s.pos.toNat) 0, B.getD (1 + s.pos.toNat) 0] := by
      simp only [unle, IntKind.wrap_i64]; omega
    rw [hu]
    have e' := count_some (lo := lo) (hi := hi) e
    rw [take_two hp] at e'
    have e0' : (s.err == 0) = true := by rw [e0]; rfl
    refine Br.of (fun _ => Br.of (fun _ => Br.of (fun c => ?_) fun c => Br.of (fun c2 => ?_) fun c2 => ?_) fun c => nomatch c) fun c => nomatch c
    · rw [c, Bool.true_or, cond_true, failR_mk e0] at e'
      rw [e0']
      exact hK.of e' (.inl rfl)
    · rw [c, c2, Bool.false_or, cond_true, failR_mk e0] at e'
      rw [e0']
      exact hK.of e' (.inl rfl)
    · rw [c, c2, Bool.false_or, cond_false] at e'
      exact hK.of e' (.inl rfl)
theorem xflag_law {B : List Int} {s : Rs} (hs : rdOk B s) (hn : B.length < 9223372036854775808) (K : KC) (hK : rdGoal 99 flagR .bool B s K) : run ra 4 60 [.ptr 0 0] (xinB B s) K := by
  rw [xflag_nf]
  refine xword_law (k := 1) (kI := 1) rfl hs hn (by decide) (fun e => ?_) (fun e => ?_) fun e0 hw hm hp e => ?_
  · exact hK.of (flag_none e) (.inr rfl)
  · exact hK.of (flag_none e) (.inl rfl)
  · rw [hm, hw]
    have e' := flag_some e
    rw [take_one hp, unle_one] at e'
    refine Br.of (fun _ => Br.of (fun c => ?_) fun c => ?_) fun c => nomatch c
    · rw [c, cond_true, failR_mk e0] at e'
      rw [show (s.err == 0) = true by rw [e0]; rfl]
      exact hK.of e' (.inl rfl)
    · rw [c, cond_false] at e'
      exact hK.of e' (.inl rfl)
theorem xmark_law {B : List Int} {s : Rs} (hs : rdOk B s) (hB : bytesOk B) (hn : B.length < 9223372036854775808) (K : KC) (hK : rdGoal 99 (markR markB) (fun _ => .tup []) B s K) : runU 4 ra 4 90 [.ptr 0 0, .str ⟨#[67, 72, 84, 82]⟩] (xinB B s) K := by
  rw [xmark_nf]
  refine xword_law (k := 4) (kI := 4) rfl hs hn (by decide) (fun e => ?_) (fun e => ?_) fun e0 hw hm hp e => ?_
  · exact hK.of (mark_none e) (.inr rfl)
  · exact hK.of (mark_none e) (.inl rfl)
  · rw [hm, hw]
    have e' := mark_some (m := markB) e
    have hm4 : bytesOk markB := by intro b hb; simp [markB] at hb; omega
    refine ⟨fun _ _ => rfl, Br.of (fun _ => ⟨fun _ _ => rfl, ?_⟩) fun c => nomatch c⟩
    rw [rowB_drop hp, rowB_bG rfl, bytesOf_beq (bytesOk_take (bytesOk_drop hB _) 4) hm4]
    refine Br.of (fun c => ?_) fun c => ?_
    · rw [Bool.not_eq_true'] at c
      rw [c, cond_false, failR_mk e0] at e'
      rw [show (s.err == 0) = true by rw [e0]; rfl]
      exact hK.of e' (.inl rfl)
    · rw [Bool.not_eq_false'] at c
      rw [c, cond_true] at e'
      exact hK.of e' (.inl rfl)
theorem xrefuse_law {B : List Int} {s : Rs} (K : KC) (hK : rdGoal 99 (fun _ => refuseR 40) (fun _ => .tup []) B s K) : run ra 4 62 [.ptr 0 0, .int .i64 40] (xinB B s) K := by
  rw [xrefuse_nf]
  have e : refuseR 40 s = ((), bif s.err == 0 then ⟨s.pos, s.last, 40, s.last⟩ else s) := rfl
  refine Br.of (fun c => ?_) fun c => ?_
  · rw [c] at e; exact rdGoal.of (rd := fun _ => refuseR 40) hK e (.inl rfl)
  · rw [c] at e; exact rdGoal.of (rd := fun _ => refuseR 40) hK e (.inr rfl)
theorem xend_law {B : List Int} {s : Rs} (K : KC) (hK : rdGoal 99 endR (fun x => .tup [.int .i64 x.1, .int .i64 x.2]) B s K) : run ra 4 63 [.ptr 0 0] (xinB B s) K := by
  rw [xend_nf]
  refine Br.of (fun c2 => Br.of (fun c => ?_) fun c => ?_) fun c2 => ?_
  · rw [c2]
    have e : endR B s = ((23, s.pos), ⟨s.pos, s.last, 23, s.pos⟩) := by unfold endR failR; simp only [c, c2, cond_true]
    exact rdGoal.of hK e (.inl rfl)
  · have e : endR B s = ((s.err, s.place), s) := by unfold endR; simp only [c, cond_false]
    exact rdGoal.of hK e (.inr rfl)
  · have e : endR B s = ((s.err, s.place), s) := by unfold endR failR; simp only [c2, cond_false]; cases decide (s.pos < (B.length : Int)) <;> rfl
    exact rdGoal.of hK e (.inr rfl)
def cXNum : List SV → List (Option SB) → KC → Prop := cRd 99 (.int .i64) (pNum numR)
def cXCount : List SV → List (Option SB) → KC → Prop := cRd 99 (.int .i64) pCount
def cXFlag : List SV → List (Option SB) → KC → Prop := cRd 99 .bool (pNum flagR)
def cXMark : List SV → List (Option SB) → KC → Prop := cRd 99 (fun _ => .tup []) pMark
def cXRefuse : List SV → List (Option SB) → KC → Prop := cRd 99 (fun _ => .tup []) pRefuse
def cXEnd : List SV → List (Option SB) → KC → Prop := cRd 99 (fun x => .tup [.int .i64 x.1, .int .i64 x.2]) (pNum endR)
theorem xnum_sat (xs : List SV) (σ : List (Option SB)) : Sat Tryz.prog 61 xs σ (cXNum xs σ) :=
  cRd_sat (fun xs rd hp B s hs => by
    obtain ⟨rfl, rfl⟩ := pNum_eq hp
    exact rd_run (u := 9) (n := 4) (B := ra) rfl fun h2 K hK => xnum_law hs (okS_rd h2).1 (okS_rd h2).2 K hK) xs σ
theorem xflag_sat (xs : List SV) (σ : List (Option SB)) : Sat Tryz.prog 60 xs σ (cXFlag xs σ) :=
  cRd_sat (fun xs rd hp B s hs => by
    obtain ⟨rfl, rfl⟩ := pNum_eq hp
    exact rd_run (u := 0) (n := 4) (B := ra) rfl fun h2 K hK => xflag_law hs (okS_rd h2).2 K hK) xs σ
theorem xend_sat (xs : List SV) (σ : List (Option SB)) : Sat Tryz.prog 63 xs σ (cXEnd xs σ) :=
  cRd_sat (fun xs rd hp B s hs => by
    obtain ⟨rfl, rfl⟩ := pNum_eq hp
    exact rd_run (u := 0) (n := 4) (B := ra) rfl fun h2 K hK => xend_law K hK) xs σ
theorem xcount_sat (xs : List SV) (σ : List (Option SB)) : Sat Tryz.prog 58 xs σ (cXCount xs σ) :=
  cRd_sat (fun xs rd hp B s hs => by
    unfold pCount at hp; split at hp
    · cases hp
      exact rd_run (u := 0) (n := 4) (B := ra) rfl fun h2 K hK => xcount_law hs (okS_rd h2).1 (okS_rd h2).2 K hK
    · cases hp) xs σ
theorem xrefuse_sat (xs : List SV) (σ : List (Option SB)) : Sat Tryz.prog 62 xs σ (cXRefuse xs σ) :=
  cRd_sat (fun xs rd hp B s hs => by
    unfold pRefuse at hp; split at hp
    · rename_i e
      cases he : e == 40 with
      | false => rw [he] at hp; cases hp
      | true =>
        rw [he] at hp; cases hp
        obtain rfl := eq_of_beq he
        exact rd_run (rd := fun _ => refuseR 40) (u := 0) (n := 4) (B := ra) rfl fun h2 K hK => xrefuse_law K hK
    · cases hp) xs σ
theorem xmark_sat (xs : List SV) (σ : List (Option SB)) : Sat Tryz.prog 90 xs σ (cXMark xs σ) :=
  cRd_sat (fun xs rd hp B s hs => by
    unfold pMark at hp; split at hp
    · rename_i x
      obtain ⟨da⟩ := x
      cases he : da == #[67, 72, 84, 82] with
      | false => simp only [he, cond_false] at hp; cases hp
      | true =>
        simp only [he, cond_true] at hp; cases hp
        obtain rfl := eq_of_beq he
        exact rd_run (rd := markR markB) (u := 4) (n := 4) (B := ra) rfl fun h2 K hK => xmark_law hs (okS_rd h2).1 (okS_rd h2).2 K hK
    · cases hp) xs σ
noncomputable def rb : Know Tryz.prog := ((((((ra).add 61 cXNum xnum_sat).add 58 cXCount xcount_sat).add 60 cXFlag xflag_sat).add 90 cXMark xmark_sat).add 62 cXRefuse xrefuse_sat).add 63 cXEnd xend_sat
end Go.Proofs.YtbedljhbakdghaaGreatDoor

namespace Go.Proofs.YtbedljhbakdghaaGreatDoor
open Go.Se
set_option maxRecDepth 100000
theorem xplace_nf (B : List Int) (s : Rs) (K : KC) : run rb 3 59 [.ptr 0 0] (xinB B s) K =
  (rdS (numR) B s fun (a398 : Int) (s397 : Rs) => rdS (numR) B s397 fun (a393 : Int) (s392 : Rs) => K (SV.agg [SV.int .i64 a398, SV.int .i64 a393]) [some (SB.cells 99 (rdC B s392))] [0]) := by kernel_rfl
def cXPlace : List SV → List (Option SB) → KC → Prop := cRd 99 plSV (pNum placeR)
theorem xplace_sat (xs : List SV) (σ : List (Option SB)) : Sat Tryz.prog 59 xs σ (cXPlace xs σ) :=
  cRd_sat (fun xs rd hp B s hs => by
    obtain ⟨rfl, rfl⟩ := pNum_eq hp
    exact rd_run (u := 0) (n := 3) (B := rb) rfl fun _ K hK => by
      show run rb 3 _ _ (xinB B s) K
      rw [xplace_nf]
      exact rd_step reads_num hs fun a s1 e1 h1 => rd_step reads_num h1 fun b s2 e2 h2 => hK.of (thenR_eq e1 e2) (.inl rfl)) xs σ
noncomputable def rc : Know Tryz.prog := (rb).add 59 cXPlace xplace_sat
end Go.Proofs.YtbedljhbakdghaaGreatDoor

namespace Go.Proofs.YtbedljhbakdghaaGreatDoor
open Go.Se
set_option maxRecDepth 100000
def xrpR : List (Nat × Keep) := [(0, ⟨[0, 7, 8, 9], [0, 1], [0, 1, 2, 3, 4, 5, 6], 2, [(7, 1)]⟩)]
def xrpS (n : Int) (B : List Int) (i : Nat) (o : SV) (b : Option SB) (s : Rs) : St := ⟨[(0, .ptr 0 0), (7, o), (8, .int .i64 n), (9, .int .i64 i)], [(0, some (.cells 99 (rdC B s))), (1, b)], 2, [0, 1, 2, 3, 4, 5, 6], 32⟩
noncomputable abbrev xrpE : Env := envL xrpR (fun _ => 0) rc 1
noncomputable abbrev xrpF : Func := Tryz.f57
abbrev xrpP : List Nat := [1, 1, 1, 0, 1, 0]
theorem xrp_entry (lo hi : Int) (B : List Int) (s : Rs) (K : KC) : runL xrpR (fun _ => 0) rc 2 57 [.ptr 0 0, .int .i64 lo, .int .i64 hi] (xinB B s) K =
  (rdS (countR lo hi) B s fun (a398 : Int) (s397 : Rs) => ∃ q_, loopE xrpE (keepW xrpR 1) xrpF xrpP 0 1 K q_ { tmps := [(0, SV.ptr 0 0), (7, SV.nils), (8, SV.int .i64 a398), (9, SV.int .i64 0)], store := [(0, some (SB.cells 99 (rdC B s397))), (1, none)], nxt := 2, dirty := [0, 1, 2, 3, 4, 5, 6], nt := 32 }) := by kernel_rfl
theorem xrp_r0 (n : Int) (B : List Int) (s : Rs) (K : Ex → St → Prop) : roundE xrpE (keepW xrpR 1) xrpF xrpP 0 K (xrpS n B 0 .nils none s) =
  (Br (decide (0 < n)) (Br (s.err == 0) (rdS (placeR) B s fun (a396 : Int × Int) (s395 : Rs) => K Ex.normal { tmps := [(0, SV.ptr 0 0), (7, SV.own 1 0 2 1), (8, SV.int .i64 n), (9, SV.int .i64 1)], store := [(0, some (SB.cells 99 (rdC B s395))), (1, some (SB.row 24 2 1 fun (i : Nat) => cut [SV.int .i64 a396.fst, SV.int .i64 a396.snd] (i * 2) 2))], nxt := 2, dirty := [0, 1, 2, 3, 4, 5, 6], nt := 32 }) (K (Ex.exit 0) { tmps := [(0, SV.ptr 0 0), (7, SV.nils), (8, SV.int .i64 n), (9, SV.int .i64 0)], store := [(0, some (SB.cells 99 (rdC B s))), (1, none)], nxt := 2, dirty := [0, 1, 2, 3, 4, 5, 6], nt := 32 })) (K (Ex.exit 0) { tmps := [(0, SV.ptr 0 0), (7, SV.nils), (8, SV.int .i64 n), (9, SV.int .i64 0)], store := [(0, some (SB.cells 99 (rdC B s))), (1, none)], nxt := 2, dirty := [0, 1, 2, 3, 4, 5, 6], nt := 32 })) := by kernel_rfl
theorem xrp_r1 (n : Int) (B : List Int) (i m : Nat) (g : Nat → List SV) (s : Rs) (K : Ex → St → Prop) : roundE xrpE (keepW xrpR 1) xrpF xrpP 0 K (xrpS n B i (.own 1 0 2 m) (some (.row 24 2 m g)) s) =
  (Br (decide ((↑i : Int) < n)) (Br (s.err == 0) (rdS (placeR) B s fun (a396 : Int × Int) (s395 : Rs) => Br (decide ((m + 1) * 16 ≤ 1099511627776) && decide (m + 1 < 9223372036854775808) && decide (m = m)) (K Ex.normal { tmps := [(0, SV.ptr 0 0), (7, SV.own 1 0 2 (m + 1)), (8, SV.int .i64 n), (9, SV.int .i64 (IntKind.i64.wrap ((↑i : Int) + 1)))], store := [(0, some (SB.cells 99 (rdC B s395))), (1, some (SB.row 24 2 (m + 1) (rowPut m [SV.int .i64 a396.fst, SV.int .i64 a396.snd] g)))], nxt := 2, dirty := [0, 1, 2, 3, 4, 5, 6], nt := 32 }) (False)) (K (Ex.exit 0) { tmps := [(0, SV.ptr 0 0), (7, SV.own 1 0 2 m), (8, SV.int .i64 n), (9, SV.int .i64 (↑i : Int))], store := [(0, some (SB.cells 99 (rdC B s))), (1, some (SB.row 24 2 m g))], nxt := 2, dirty := [0, 1, 2, 3, 4, 5, 6], nt := 32 })) (K (Ex.exit 0) { tmps := [(0, SV.ptr 0 0), (7, SV.own 1 0 2 m), (8, SV.int .i64 n), (9, SV.int .i64 (↑i : Int))], store := [(0, some (SB.cells 99 (rdC B s))), (1, some (SB.row 24 2 m g))], nxt := 2, dirty := [0, 1, 2, 3, 4, 5, 6], nt := 32 })) := by kernel_rfl
theorem xrp_a0 (n : Int) (B : List Int) (i : Nat) (s : Rs) (K : KC) : afterE xrpE (keepW xrpR 1) xrpF xrpP 1 K (.exit 0) (xrpS n B i .nils none s) =
  (K SV.nils [some (SB.cells 99 [SV.ro B.length 1 (bG B), SV.int .i64 s.pos, SV.int .i64 s.last, SV.int .i64 s.err, SV.int .i64 s.place])] [0]) := by kernel_rfl
theorem xrp_a1 (n : Int) (B : List Int) (i m : Nat) (g : Nat → List SV) (s : Rs) (K : KC) : afterE xrpE (keepW xrpR 1) xrpF xrpP 1 K (.exit 0) (xrpS n B i (.own 1 0 2 m) (some (.row 24 2 m g)) s) =
  (K (SV.own 1 0 2 m) [some (SB.cells 99 [SV.ro B.length 1 (bG B), SV.int .i64 s.pos, SV.int .i64 s.last, SV.int .i64 s.err, SV.int .i64 s.place]), some (SB.row 24 2 m g)] [0]) := by kernel_rfl
theorem xrp_law (lo hi : Int) (hh : hi ≤ 100000) {B : List Int} {s : Rs} (hs : rdOk B s) (K : KC) (hK : rowsEndS 24 2 plL (manyX lo hi placeR B s).1 (.cells 99 (rdC B (manyX lo hi placeR B s).2)) K) :
    runL xrpR (fun _ => 0) rc 2 57 [.ptr 0 0, .int .i64 lo, .int .i64 hi] (xinB B s) K := by
  rw [xrp_entry]
  refine rd_step (reads_count lo hi) hs fun n s1 e1 h1 => ?_
  have hn : n ≤ 100000 := by rcases count_range e1 with h | h <;> omega
  rw [show manyX lo hi placeR B s = takeX placeR n.toNat B s1 from thenR_eq e1 rfl] at hK
  refine takeX_loop (f := plL) (st := 2) (e := 24) (id := 1) (fun _ => rfl) reads_place h1 n.toNat (fun i o b s => xrpS n B i o b s) (fun h0 s hs he X hX => ?_) (fun i hi hi0 s g hs he X hX => ?_) (fun i o b L s hend hi hlen ht hs hgo X => ?_)
  · rw [xrp_r0]
    refine Br.of (fun _ => Br.of (fun _ => rd_step reads_place hs fun a s1 e1 h1 => hX a s1 e1 h1) fun c => absurd he (ne_of_beq_false c)) fun c => absurd (of_decide_eq_false c) (by omega)
  · rw [xrp_r1, wi64_succ hi (by omega)]
    refine Br.of (fun _ => Br.of (fun _ => rd_step reads_place hs fun a s1 e1 h1 => Br.of (fun _ => hX a s1 e1 h1) fun c => ?_) fun c => absurd he (ne_of_beq_false c)) fun c => in_i hi c
    simp at c; omega
  · rw [hgo] at hK
    refine rows_end ht hK (fun h1 h2 hK => ?_) fun m g h1 h2 hK => ?_
    · subst h1; subst h2
      obtain rfl : i = 0 := by
        rcases ht with ⟨hL, _⟩ | ⟨_, _, h, _⟩
        · rw [hL] at hlen; exact hlen.symm
        · cases h
      have hx : afterE xrpE (keepW xrpR 1) xrpF xrpP 1 K (.exit 0) (xrpS n B 0 .nils none s) := by rw [xrp_a0]; exact hK
      rw [xrp_r0]
      refine Br.of (fun c => Br.of (fun c2 => ?_) fun _ => hx) fun _ => hx
      have c := of_decide_eq_true c
      rcases hend with h | h
      · omega
      · exact absurd (eq_of_beq c2) h
    · subst h1; subst h2
      have hx : afterE xrpE (keepW xrpR 1) xrpF xrpP 1 K (.exit 0) (xrpS n B i (.own 1 0 2 m) (some (.row 24 2 m g)) s) := by rw [xrp_a1]; exact hK
      rw [xrp_r1]
      refine Br.of (fun c => Br.of (fun c2 => ?_) fun _ => hx) fun _ => hx
      have c := of_decide_eq_true c
      rcases hend with h | h
      · omega
      · exact absurd (eq_of_beq c2) h
def lowI (h : Int) : Prop := h ≤ 100000
def pXRp : List SV → Option (Prop × (List Int → Rs → List (Int × Int) × Rs))
  | [.ptr 0 0, .int .i64 lo, .int .i64 hi] => some (lowI hi, manyX lo hi placeR)
  | _ => none
def cXRp : List SV → List (Option SB) → KC → Prop := cRdP 99 (rowSV 2 plL (0, 0)) pXRp
theorem xrp_sat (xs : List SV) (σ : List (Option SB)) : Sat Tryz.prog 57 xs σ (cXRp xs σ) :=
  cRdP_sat (fun xs c rd hp hc B s hs => by
    unfold pXRp at hp; split at hp
    · cases hp
      exact callOK_rowsS (idsL_rd B _) (fun _ => rfl) fun K hK => calls_sat (env := tab.env rc (fun _ => 0) (fun _ => false)) ⟨tab.htt, rc.ok⟩ tab.mixed (fun n => keepW_weaker n xrpR) tab.hft 2 _ _ _ K (xrp_law _ _ hc hs K hK)
    · cases hp) xs σ
noncomputable def rd : Know Tryz.prog := (rc).add 57 cXRp xrp_sat
noncomputable abbrev runF (R : List (Nat × KeepF)) (u : Nat → Nat) (B : Know Tryz.prog) (n : Nat) (k : FuncId) (xs : List SV) (σ : List (Option SB)) (K : KC) : Prop :=
  calls (tab.env B u (fun _ => false)) (keepF R) B.dom n k xs σ K
noncomputable abbrev envF (R : List (Nat × KeepF)) (u : Nat → Nat) (B : Know Tryz.prog) (n : Nat) : Env :=
  { tab.env B u (fun _ => false) with callee := calls (tab.env B u (fun _ => false)) (keepF R) B.dom n }
end Go.Proofs.YtbedljhbakdghaaGreatDoor

