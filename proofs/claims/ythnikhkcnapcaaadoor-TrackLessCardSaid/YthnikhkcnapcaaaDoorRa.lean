import Derived.Test.YthnikhkcnapcaaaDoorExt
import Derived.Test.YthnikhkcnapcaaaDoorSeNum
namespace Go.Proofs.YthnikhkcnapcaaaDoor
open Go.Se
set_option maxRecDepth 100000
noncomputable def q1 : Know Tryd.prog := k0
noncomputable def q1z : Know Tryd.prog := q1
theorem wordsN_law {s : Bool} {a b c d : Int} {K : KC} (ha : 0 ≤ a) (hb : 0 ≤ b) (hc : 0 ≤ c) (hd : 0 ≤ d) (hx : dOk a b c d = true) (hK : ∀ h l : Int, K (.tup [.int .i64 h, .int .u64 l, .bool (in128 (nv s a b c d))]) [] [])
    (L1 L2 L3 L4 L5 L6 : Int) : Br (decide (IntKind.u64.wrap (IntKind.u64.wrap (d * 4294967296) + c) > 9223372036854775808)) (K (.tup [.int .i64 0, .int .u64 0, .bool false]) [] [])
      (Br (IntKind.u64.wrap (IntKind.u64.wrap (d * 4294967296) + c) == 9223372036854775808) (Br (IntKind.u64.wrap (IntKind.u64.wrap (b * 4294967296) + a) != 0) (K (.tup [.int .i64 0, .int .u64 0, .bool false]) [] [])
        (Br (!s) (K (.tup [.int .i64 0, .int .u64 0, .bool false]) [] []) (∀ h l : Int, K (.tup [.int .i64 h, .int .u64 l, .bool true]) [] []))) (∀ h l : Int, K (.tup [.int .i64 h, .int .u64 l, .bool true]) [] [])) := by
  rw [dOk_iff] at hx
  have hi := in128_iff (nv s a b c d)
  simp only [wu64]
  rw [show (d * 4294967296 % 18446744073709551616 + c) % 18446744073709551616 = d * 4294967296 + c by omega, show (b * 4294967296 % 18446744073709551616 + a) % 18446744073709551616 = b * 4294967296 + a by omega]
  have key : ∀ B : Bool, (B = true ↔ -170141183460469231731687303715884105728 ≤ nv s a b c d ∧ nv s a b c d < 170141183460469231731687303715884105728) → ∀ h l : Int, K (.tup [.int .i64 h, .int .u64 l, .bool B]) [] [] := fun B hB h l => by
    rw [in128_eq hB]; exact hK h l
  have hv : (s = true ∧ nv s a b c d = -dv a b c d) ∨ (s = false ∧ nv s a b c d = dv a b c d) := by cases s <;> simp [nv]
  unfold dv at hv
  refine Br.of (fun h1 => key _ ?_ 0 0) fun h1 => Br.of (fun h2 => Br.of (fun h3 => key _ ?_ 0 0) fun h3 => Br.of (fun h4 => key _ ?_ 0 0) fun h4 => key _ ?_) fun h2 => key _ ?_ <;>
    simp only [decide_eq_true_eq, decide_eq_false_iff_not] at h1 <;> (try simp only [beq_iff_eq, beq_eq_false_iff_ne, ne_eq] at h2) <;> (try simp only [bne_iff_ne, ne_eq, bne_eq_false_iff_eq] at h3) <;> (try simp only [Bool.not_eq_true', Bool.not_eq_false'] at h4) <;>
    simp only [Bool.false_eq_true, false_iff, true_iff]
  · rcases hv with ⟨_, hv⟩ | ⟨_, hv⟩ <;> omega
  · rcases hv with ⟨_, hv⟩ | ⟨_, hv⟩ <;> omega
  · rcases hv with ⟨h5, hv⟩ | ⟨_, hv⟩
    · rw [h5] at h4; cases h4
    · omega
  · rcases hv with ⟨_, hv⟩ | ⟨h5, hv⟩
    · omega
    · rw [h5] at h4; cases h4
  · rcases hv with ⟨_, hv⟩ | ⟨_, hv⟩ <;> omega
end Go.Proofs.YthnikhkcnapcaaaDoor

namespace Go.Proofs.YthnikhkcnapcaaaDoor
open Go.Se
set_option maxRecDepth 100000
def notU (x : Int) : Int := IntKind.u64.wrap ↑(BitVec.ofInt IntKind.u64.bits (if IntKind.u64.signed = true then -1 else IntKind.u64.max) ^^^ BitVec.ofInt IntKind.u64.bits x).toNat
def wordsT (s : Bool) (h l : Int) (K : KC) : Prop :=
  Br s (Br (IntKind.u64.wrap (notU l + 1) == 0) (K (.tup [.int .i64 (IntKind.i64.wrap (IntKind.u64.wrap (notU h + 1))), .int .u64 (IntKind.u64.wrap (notU l + 1)), .bool true]) [] [])
    (K (.tup [.int .i64 (IntKind.i64.wrap (notU h)), .int .u64 (IntKind.u64.wrap (notU l + 1)), .bool true]) [] []))
    (K (.tup [.int .i64 (IntKind.i64.wrap h), .int .u64 l, .bool true]) [] [])
theorem wordsT_law {s : Bool} {h l : Int} {K : KC} (hK : ∀ h l : Int, K (.tup [.int .i64 h, .int .u64 l, .bool true]) [] []) : wordsT s h l K :=
  Br.of (fun _ => Br.of (fun _ => hK _ _) fun _ => hK _ _) fun _ => hK _ _
theorem br_mono {c : Bool} {A B C D : Prop} (h : Br c A B) (f : A → C) (g : B → D) : Br c C D := by
  cases c
  · exact g h
  · exact f h
noncomputable def q2 : Know Tryd.prog := q1
end Go.Proofs.YthnikhkcnapcaaaDoor

namespace Go.Proofs.YthnikhkcnapcaaaDoor
open Go.Se
set_option maxRecDepth 100000
end Go.Proofs.YthnikhkcnapcaaaDoor

