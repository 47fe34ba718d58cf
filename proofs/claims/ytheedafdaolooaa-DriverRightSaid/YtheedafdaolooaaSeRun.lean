/- What the model's small steps come to, told once. -/
import Derived.Test.YtheedafdaolooaaSeTypes
import Derived.Test.YtheedafdaolooaaSeRel
import Derived.Laws.Sem
import Derived.Laws.World
import Derived.Calls
namespace Go.Se
variable {P : Program} {w : World}

structure TIok (P : Program) (t : TypeId) (ti : TI) : Prop where
  info : ∃ i, P.info? t = some i ∧ i.size = ti.size ∧ i.bytes = ti.bytes ∧ ∃ z, i.zero = some z ∧ zeroCells z.cells.toList = some ti.zero
  desc : ∃ d, P.underlying t = some d ∧ kindOf d = some ti.kind
  held : ∀ fs, ti.kind = .struct fs → P.stoodInHeld t = false ∧ ∀ f ∈ fs, (P.info? f.2).isSome = true

theorem TIok.of {t : TypeId} {ti : TI} (h : tiOf P t = some ti) : TIok P t ti := by
  unfold tiOf at h
  split at h
  · rename_i i d hi hd
    split at h
    · rename_i z k hz hk
      split at h
      · rename_i cs hc
        cases hkin : kindIn P t k with
        | false => rw [hkin] at h; cases h
        | true =>
          rw [hkin] at h
          cases h
          refine ⟨⟨i, hi, rfl, rfl, z, hz, hc⟩, ⟨d, hd, hk⟩, fun fs hf => ?_⟩
          simp only at hf
          subst hf
          simp only [kindIn, Bool.and_eq_true, Bool.not_eq_true', List.all_eq_true] at hkin
          exact hkin
      · cases h
    · cases h
  · cases h

theorem TIok.typeInfo {t : TypeId} {ti : TI} (h : TIok P t ti) : ∃ i, (typeInfo t).run P w = .ok i w ∧ i.size = ti.size ∧ i.bytes = ti.bytes := by
  obtain ⟨⟨i, hi, h1, h2, _⟩, _, _⟩ := h
  exact ⟨i, by simp [Go.typeInfo, hi], h1, h2⟩

theorem TIok.sizeOf {t : TypeId} {ti : TI} (h : TIok P t ti) : (sizeOf t).run P w = .ok ti.size w := by
  obtain ⟨⟨i, hi, h1, _⟩, _, _⟩ := h
  simp [Go.sizeOf, Go.typeInfo, hi, h1]

theorem TIok.underlying {t : TypeId} {ti : TI} (h : TIok P t ti) : ∃ d, (underlying t).run P w = .ok d w ∧ P.underlying t = some d ∧ kindOf d = some ti.kind := by
  obtain ⟨_, ⟨d, hd, hk⟩, _⟩ := h
  exact ⟨d, by simp [Go.underlying, hd], hd, hk⟩

theorem TIok.isAgg {t : TypeId} {ti : TI} (h : TIok P t ti) : (Go.isAgg t).run P w = .ok (isAgg ti.kind) w := by
  obtain ⟨d, hd, _, hk⟩ := h.underlying (w := w)
  unfold Go.isAgg
  rw [Sem.run_bind, hd]
  cases d <;> simp only [kindOf, Option.some.injEq, reduceCtorEq] at hk
  case struct fs _ =>
    cases hb : fs.toList.all (fun f => f.name != "_") with
    | true => rw [hb] at hk; simp only [cond_true, Option.some.injEq] at hk; rw [← hk]; rfl
    | false => rw [hb] at hk; simp at hk
  all_goals (rw [← hk]; rfl)

theorem TIok.zero {t : TypeId} {ti : TI} (h : TIok P t ti) : ∃ z, (zeroValue t).run P w = .ok z w ∧ zeroCells z.cells.toList = some ti.zero := by
  obtain ⟨⟨i, hi, _, _, z, hz, hc⟩, _, _⟩ := h
  exact ⟨z, by simp [zeroValue, Go.typeInfo, hi, hz], hc⟩

theorem in_min_max_zero (k : IntKind) : k.min ≤ 0 ∧ 0 ≤ k.max := by cases k <;> decide

theorem zeroCells_rel (ρ : Names) (T : Nat → Prop) (w : World) : ∀ (l : List Value) (cs : List SV), zeroCells l = some cs → relL ρ T w cs l
  | [], cs, h => by simp [zeroCells] at h; subst h; rfl
  | v :: l, cs, h => by
    unfold zeroCells at h
    split at h
    · rename_i k n r hr
      by_cases hn : n = 0
      · subst hn; simp at h; subst h
        exact ⟨_, _, rfl, ⟨rfl, in_min_max_zero k⟩, zeroCells_rel ρ T w l _ hr⟩
      · simp [hn] at h
    · rename_i b r hr; cases h; exact ⟨_, _, rfl, rfl, zeroCells_rel ρ T w l _ hr⟩
    · rename_i x r hr
      by_cases hn : x.size = 0
      · rw [show Nat.beq x.size 0 = true from by rw [hn]; rfl] at h
        cases h; exact ⟨_, _, rfl, ⟨rfl, by omega⟩, zeroCells_rel ρ T w l _ hr⟩
      · rw [show Nat.beq x.size 0 = false from by rw [Bool.eq_false_iff]; intro e; exact hn (Nat.eq_of_beq_eq_true e)] at h
        cases h
    all_goals first
      | (rename_i r hr; cases h; exact ⟨_, _, rfl, rfl, zeroCells_rel ρ T w l _ hr⟩)
      | cases h

/-- Memory with other cells in a block. -/
def putBlock (w : World) (b : Nat) (vs : Array Value) (e : TypeId) : World := { w with heap := w.heap.setIfInBounds b (.cells vs e (0, 0)) }

theorem putBlock_size (w : World) (b : Nat) (vs : Array Value) (e : TypeId) : (putBlock w b vs e).heap.size = w.heap.size := by simp [putBlock]

theorem putBlock_at {b : Nat} {vs : Array Value} {e : TypeId} (h : b < w.heap.size) : (putBlock w b vs e).heap[b]? = some (.cells vs e (0, 0)) := by
  simp [putBlock, h]

theorem putBlock_other {b c : Nat} {vs : Array Value} {e : TypeId} (h : c ≠ b) : (putBlock w b vs e).heap[c]? = w.heap[c]? := by
  simp [putBlock, Array.getElem?_setIfInBounds_ne (Ne.symm h)]

theorem add_off (b o i : Nat) : (Addr.mk b o none).add i = ⟨b, o + i, none⟩ := by
  unfold Addr.add; split
  · subst_vars; rfl
  · rfl

theorem cell_of {b : Nat} {vs : Array Value} {e : TypeId} {f : Nat × Nat} (h : w.heap[b]? = some (.cells vs e f)) (o : Nat) :
    w.cell? ⟨b, o, none⟩ = vs[o]? := by
  unfold World.cell?; simp [h]

/-- A row of cells is read. -/
theorem run_loadCellsFrom {b o : Nat} {vs : Array Value} {e : TypeId} {f : Nat × Nat} (h : w.heap[b]? = some (.cells vs e f)) :
    ∀ (n i : Nat) (acc : Array Value), o + i + n ≤ vs.size →
    (loadCellsFrom ⟨b, o, none⟩ i n acc).run P w = .ok (acc ++ ((vs.toList.drop (o + i)).take n).toArray) w := by
  intro n
  induction n with
  | zero => intro i acc _; simp [loadCellsFrom]
  | succ n ih =>
    intro i acc hn
    have hlt : o + i < vs.size := by omega
    unfold loadCellsFrom
    rw [Sem.run_bind, add_off]
    simp only [run_load, cell_of h, Array.getElem?_eq_getElem hlt]
    simp only [Result.andThen_ok]
    rw [ih (i + 1) _ (by omega)]
    congr 1
    apply Array.ext'
    simp only [Array.toList_append, Array.toList_push]
    rw [show o + (i + 1) = o + i + 1 by omega, List.append_assoc]
    congr 1
    rw [List.drop_eq_getElem_cons (l := vs.toList) (i := o + i) (by simpa using hlt), List.take_succ_cons]
    simp

theorem run_loadCells {b o n : Nat} {vs : Array Value} {e : TypeId} {f : Nat × Nat} (h : w.heap[b]? = some (.cells vs e f)) (hn : o + n ≤ vs.size) :
    (loadCells ⟨b, o, none⟩ n).run P w = .ok ((vs.toList.drop o).take n).toArray w := by
  unfold loadCells
  rw [run_loadCellsFrom h n 0 #[] (by omega)]
  simp

/-- Values written over others from a place on. -/
def overAt (l : List Value) (o : Nat) (m : List Value) : List Value := l.take o ++ m ++ l.drop (o + m.length)

theorem putBlock_put (w : World) (b : Nat) (vs vs' : Array Value) (e e' : TypeId) : putBlock (putBlock w b vs e) b vs' e' = putBlock w b vs' e' := by
  unfold putBlock; simp

theorem setCell_put {b o : Nat} {vs : Array Value} {e : TypeId} (h : w.heap[b]? = some (.cells vs e (0, 0))) (v : Value) :
    w.setCell ⟨b, o, none⟩ v = putBlock w b (vs.setIfInBounds o v) e := by
  unfold World.setCell putBlock
  congr 1
  obtain ⟨hb, h'⟩ := Array.getElem?_eq_some_iff.1 h
  apply Array.ext (by simp)
  intro i h1 h2
  by_cases hi : b = i
  · subst hi
    rw [Array.getElem_modify_self, Array.getElem_setIfInBounds_self, h']
    simp
  · rw [Array.getElem_modify_of_ne hi, Array.getElem_setIfInBounds_ne _ hi]

theorem putBlock_self {b : Nat} {vs : Array Value} {e : TypeId} (h : w.heap[b]? = some (.cells vs e (0, 0))) : putBlock w b vs e = w := by
  unfold putBlock
  obtain ⟨hb, h'⟩ := Array.getElem?_eq_some_iff.1 h
  have : w.heap.setIfInBounds b (.cells vs e (0, 0)) = w.heap := by
    apply Array.ext (by simp)
    intro i h1 h2
    by_cases hi : b = i
    · subst hi; rw [Array.getElem_setIfInBounds_self, h']
    · rw [Array.getElem_setIfInBounds_ne _ hi]
  rw [this]

theorem frozen_of {b o : Nat} {vs : Array Value} {e : TypeId} (h : w.heap[b]? = some (.cells vs e (0, 0))) : w.frozen? ⟨b, o, none⟩ = false := by
  unfold World.frozen?; simp [h]

/-- A row of cells is written. -/
theorem run_storeCells {b o : Nat} {e : TypeId} : ∀ (l : List Value) (i : Nat) (vs : Array Value) (w : World), w.heap[b]? = some (.cells vs e (0, 0)) →
    o + i + l.length ≤ vs.size → (∀ v ∈ l, v.oneCell' = true) →
    (storeCells ⟨b, o, none⟩ l i).run P w = .ok () (putBlock w b (overAt vs.toList (o + i) l).toArray e) := by
  intro l
  induction l with
  | nil =>
    intro i vs w h _ _
    simp only [storeCells, overAt, List.length_nil, Nat.add_zero, List.append_nil, List.take_append_drop, Array.toArray_toList]
    rw [putBlock_self h]; rfl
  | cons v l ih =>
    intro i vs w h hn hv
    simp only [List.length_cons] at hn
    have hlt : o + i < vs.size := by omega
    unfold storeCells
    rw [Sem.run_bind, add_off, run_store P w _ v _ (hv v (by simp))]
    simp only [cell_of h, Array.getElem?_eq_getElem hlt, frozen_of h]
    simp only [Bool.false_eq_true, if_false, Result.andThen_ok]
    rw [setCell_put h]
    have hb : b < w.heap.size := (Array.getElem?_eq_some_iff.1 h).1
    rw [ih (i + 1) (vs.setIfInBounds (o + i) v) _ (putBlock_at hb) (by simp; omega) (fun x hx => hv x (by simp [hx])), putBlock_put]
    congr 2
    apply Array.ext'
    simp only [overAt, Array.toList_setIfInBounds, List.length_cons]
    have hl : o + i < vs.toList.length := by simpa using hlt
    rw [show o + (i + 1) = o + i + 1 by omega, show o + i + 1 + l.length = o + i + (l.length + 1) by omega]
    rw [List.take_set, List.drop_set_of_lt (by omega)]
    rw [List.take_succ_eq_append_getElem hl, List.set_append]
    have hm : min (o + i) vs.size = o + i := by omega
    simp [hm]

end Go.Se
