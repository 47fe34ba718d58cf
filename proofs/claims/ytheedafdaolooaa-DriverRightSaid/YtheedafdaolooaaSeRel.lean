/- What a shaped value says of a value in memory. -/
import Derived.Test.YtheedafdaolooaaSeDefs
import Derived.Orders
import Derived.LoopN
namespace Go.Se

abbrev Names := Nat → Option Nat

mutual
def rel (ρ : Names) (T : Nat → Prop) (w : World) : SV → Value → Prop
  | .junk, _ => True
  | .int k n, v => v = .int k n ∧ k.min ≤ n ∧ n ≤ k.max
  | .bool b, v => v = .bool b
  | .str s, v => v = .string s ∧ s.size < 9223372036854775808
  | .nilp, v => v = .pointer none
  | .ptr id off, v => ∃ b, ρ id = some b ∧ v = .pointer (some ⟨b, off, none⟩)
  | .rptr cs, v => ∃ b off, v = .pointer (some ⟨b, off, none⟩) ∧ b < w.heap.size ∧ ¬ T b ∧ relAt T w cs b off
  | .fn f x y, v => ∃ a c, v = .func f a c ∧ relL ρ T w x a.toList ∧ relL ρ T w y c.toList
  | .nilfn, v => v = .nilFunc
  | .agg cs, v => ∃ a, v = .agg a ∧ relL ρ T w cs a.toList
  | .tup cs, v => ∃ a, v = .tuple a ∧ relL ρ T w cs a.toList
  | .nils, v => v = .slice none 0 0
  | .arr id off len cap, v => (∃ b, ρ id = some b ∧ v = .slice (some ⟨b, off, none⟩) len cap) ∧ len < 9223372036854775808
  | .own id st len, v => ∃ b c, ρ id = some b ∧ v = .slice (some ⟨b, 0, none⟩) len c ∧ len ≤ c ∧ c < 9223372036854775808 ∧
      ∃ vs e f, w.heap[b]? = some (.cells vs e f) ∧ c * st ≤ vs.size
  | .ro len st get, v => ∃ a c, v = .slice a len c ∧ len < 9223372036854775808 ∧
      (0 < len → ∃ b off, a = some ⟨b, off, none⟩ ∧ b < w.heap.size ∧ ¬ T b ∧ ∀ i, i < len → relAt T w (get i) b (off + i * st))
  | .nilI, v => v = .nilIface
  | .iface t x, v => ∃ y, v = .iface t y ∧ rel ρ T w x y
def relL (ρ : Names) (T : Nat → Prop) (w : World) : List SV → List Value → Prop
  | [], m => m = []
  | a :: l, m => ∃ v r, m = v :: r ∧ rel ρ T w a v ∧ relL ρ T w l r
def relAt (T : Nat → Prop) (w : World) : List SV → Nat → Nat → Prop
  | [], _, _ => True
  | a :: l, b, o => (∃ v, w.cell? ⟨b, o, none⟩ = some v ∧ rel (fun _ => none) T w a v) ∧ relAt T w l b (o + 1)
end

/-- What a call, or an operation, may have done to memory: blocks outside T are as they were, and all blocks keep their make. -/
structure Grow (T : Nat → Prop) (w w' : World) : Prop where
  size : w.heap.size ≤ w'.heap.size
  same : ∀ b, b < w.heap.size → ¬ T b → w'.heap[b]? = w.heap[b]?
  shape : ∀ (b : Nat) (vs : Array Value) (e : TypeId) (f : Nat × Nat), w.heap[b]? = some (.cells vs e f) → ∃ (vs' : Array Value) (f' : Nat × Nat), w'.heap[b]? = some (.cells vs' e f') ∧ vs'.size = vs.size
  os : w'.os = w.os
  output : w'.output = w.output
  tape : w'.tape = w.tape

theorem Grow.refl (T : Nat → Prop) (w : World) : Grow T w w :=
  ⟨Nat.le_refl _, fun _ _ _ => rfl, fun _ vs _ f h => ⟨vs, f, h, rfl⟩, rfl, rfl, rfl⟩

theorem Grow.mono {T T' : Nat → Prop} {w w' : World} (h : Grow T w w') (hT : ∀ b, b < w.heap.size → T b → T' b) : Grow T' w w' :=
  ⟨h.size, fun b hb hn => h.same b hb fun ht => hn (hT b hb ht), h.shape, h.os, h.output, h.tape⟩

theorem Grow.trans {T T' : Nat → Prop} {w w' w'' : World} (h : Grow T w w') (h' : Grow T' w' w'') (hT : ∀ b, b < w.heap.size → T' b → T b) : Grow T w w'' := by
  refine ⟨Nat.le_trans h.size h'.size, fun b hb hn => ?_, fun b vs e f hb => ?_, h'.os.trans h.os, h'.output.trans h.output, h'.tape.trans h.tape⟩
  · rw [h'.same b (Nat.lt_of_lt_of_le hb h.size) (fun ht => hn (hT b hb ht)), h.same b hb hn]
  · obtain ⟨vs', f', h1, h2⟩ := h.shape b vs e f hb
    obtain ⟨vs'', f'', h3, h4⟩ := h'.shape b vs' e f' h1
    exact ⟨vs'', f'', h3, h4.trans h2⟩

theorem lt_of_cell {w : World} {a : Addr} {v : Value} (h : w.cell? a = some v) : a.block < w.heap.size := by
  unfold World.cell? at h
  cases hb : w.heap[a.block]? with
  | none => rw [hb] at h; simp at h
  | some o => exact (Array.getElem?_eq_some_iff.1 hb).1

theorem cell_same {w w' : World} {b o : Nat} (h : w'.heap[b]? = w.heap[b]?) : w'.cell? ⟨b, o, none⟩ = w.cell? ⟨b, o, none⟩ := by
  unfold World.cell?; rw [h]

section
variable {T T' : Nat → Prop} {w w' : World}

mutual
theorem rel_mono {ρ ρ' : Names} (hρ : ∀ id b, ρ id = some b → ρ' id = some b) (hT : ∀ b, b < w.heap.size → T' b → T b) (hw : Grow T w w') :
    ∀ (a : SV) (v : Value), rel ρ T w a v → rel ρ' T' w' a v
  | .junk, _, _ => trivial
  | .int _ _, _, h => h
  | .bool _, _, h => h
  | .str _, _, h => h
  | .nilp, _, h => h
  | .ptr id off, v, ⟨b, h1, h2⟩ => ⟨b, hρ _ _ h1, h2⟩
  | .rptr cs, v, ⟨b, off, h1, hb, h2, h3⟩ => ⟨b, off, h1, Nat.lt_of_lt_of_le hb hw.size, fun ht => h2 (hT b hb ht), relAt_mono hT hw cs b off h2 h3⟩
  | .fn f x y, v, ⟨a, c, h1, h2, h3⟩ => ⟨a, c, h1, relL_mono hρ hT hw x _ h2, relL_mono hρ hT hw y _ h3⟩
  | .nilfn, _, h => h
  | .agg cs, v, ⟨a, h1, h2⟩ => ⟨a, h1, relL_mono hρ hT hw cs _ h2⟩
  | .tup cs, v, ⟨a, h1, h2⟩ => ⟨a, h1, relL_mono hρ hT hw cs _ h2⟩
  | .nils, _, h => h
  | .arr id off len cap, v, ⟨⟨b, h1, h2⟩, h3⟩ => ⟨⟨b, hρ _ _ h1, h2⟩, h3⟩
  | .own id st len, v, ⟨b, c, h1, h2, h3, h4, vs, e, f, h5, h6⟩ => by
    obtain ⟨vs', f', h7, h8⟩ := hw.shape b vs e f h5
    exact ⟨b, c, hρ _ _ h1, h2, h3, h4, vs', e, f', h7, by omega⟩
  | .ro len st g, v, ⟨a, c, h1, h2, h3⟩ => ⟨a, c, h1, h2, fun hl => by
      obtain ⟨b, off, h4, hb, h5, h6⟩ := h3 hl
      exact ⟨b, off, h4, Nat.lt_of_lt_of_le hb hw.size, fun ht => h5 (hT b hb ht), fun i hi => relAt_mono hT hw (g i) b _ h5 (h6 i hi)⟩⟩
  | .nilI, _, h => h
  | .iface t x, v, ⟨y, h1, h2⟩ => ⟨y, h1, rel_mono hρ hT hw x y h2⟩
theorem relL_mono {ρ ρ' : Names} (hρ : ∀ id b, ρ id = some b → ρ' id = some b) (hT : ∀ b, b < w.heap.size → T' b → T b) (hw : Grow T w w') :
    ∀ (l : List SV) (m : List Value), relL ρ T w l m → relL ρ' T' w' l m
  | [], _, h => h
  | a :: l, m, ⟨v, r, h1, h2, h3⟩ => ⟨v, r, h1, rel_mono hρ hT hw a v h2, relL_mono hρ hT hw l r h3⟩
theorem relAt_mono (hT : ∀ b, b < w.heap.size → T' b → T b) (hw : Grow T w w') :
    ∀ (l : List SV) (b o : Nat), ¬ T b → relAt T w l b o → relAt T' w' l b o
  | [], _, _, _, _ => trivial
  | a :: l, b, o, hb, ⟨⟨v, h1, h2⟩, h3⟩ =>
    ⟨⟨v, by rw [cell_same (hw.same b (lt_of_cell h1) hb)]; exact h1, rel_mono (ρ := fun _ => none) (ρ' := fun _ => none) (fun _ _ h => h) hT hw a v h2⟩, relAt_mono hT hw l b (o + 1) hb h3⟩
end
end

/-- What is told of a block. -/
def relB (ρ : Names) (T : Nat → Prop) (w : World) : SB → Nat → Prop
  | .cells e cs, b => ∃ vs : Array Value, w.heap[b]? = some (.cells vs e (0, 0)) ∧ relL ρ T w cs vs.toList
  | .lst e cs, b => ∃ vs : Array Value, w.heap[b]? = some (.cells vs e (0, 0)) ∧ ∃ m r, vs.toList = m ++ r ∧ relL ρ T w cs m
  | .row e st len g, b => ∃ vs : Array Value, w.heap[b]? = some (.cells vs e (0, 0)) ∧ len * st ≤ vs.size ∧
      ∀ i, i < len → relL (fun _ => none) T w (g i) ((vs.toList.drop (i * st)).take st)

theorem relB_lt {ρ : Names} {T : Nat → Prop} {w : World} {sb : SB} {b : Nat} (h : relB ρ T w sb b) : b < w.heap.size := by
  cases sb <;> (obtain ⟨vs, hb, _⟩ := h; exact (Array.getElem?_eq_some_iff.1 hb).1)

theorem relB_mono {ρ ρ' : Names} {T T' : Nat → Prop} {w w' : World} (hρ : ∀ id b, ρ id = some b → ρ' id = some b) (hT : ∀ b, b < w.heap.size → T' b → T b)
    (hw : Grow T w w') {sb : SB} {b : Nat} (hb : w'.heap[b]? = w.heap[b]?) (h : relB ρ T w sb b) : relB ρ' T' w' sb b := by
  cases sb with
  | cells e cs => obtain ⟨vs, h1, h2⟩ := h; exact ⟨vs, hb.trans h1, relL_mono hρ hT hw _ _ h2⟩
  | lst e cs => obtain ⟨vs, h1, m, r, h2, h3⟩ := h; exact ⟨vs, hb.trans h1, m, r, h2, relL_mono hρ hT hw _ _ h3⟩
  | row e st len g => obtain ⟨vs, h1, h2, h3⟩ := h; exact ⟨vs, hb.trans h1, h2, fun i hi => relL_mono (fun _ _ h => h) hT hw _ _ (h3 i hi)⟩

end Go.Se
