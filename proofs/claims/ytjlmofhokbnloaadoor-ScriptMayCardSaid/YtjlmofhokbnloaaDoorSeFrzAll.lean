/- A result with all that it leads to: from here on nobody turns it. -/
import Derived.Test.YtjlmofhokbnloaaDoorSeFrz
namespace Go.Se
variable {P : Program}

/-- A value whose blocks are told in place. -/
def frz : Nat → List (Option SB) → SV → SV
  | 0, _, _ => .junk
  | d + 1, σ, v => match v with
    | .own id 0 st len => match σ[id]? with
      | some (some (.lst _ cs)) => bif Nat.ble (len * st) cs.length then .ro len st (fun i => (cut cs (Nat.min i (len - 1) * st) st).map (frz d σ)) else .junk
      | some (some (.row _ st' n g)) => bif Nat.beq st' st && Nat.ble len n then .ro len st g else .junk
      | _ => .junk
    | .arr id 0 len cap => match σ[id]? with
      | some (some (.cells _ cs)) => bif Nat.ble len cap then .ro len (cs.length / len) (fun i => (cut cs (Nat.min i (len - 1) * (cs.length / len)) (cs.length / len)).map (frz d σ)) else .junk
      | _ => .junk
    | .agg cs => .agg (cs.map (frz d σ))
    | .tup cs => .tup (cs.map (frz d σ))
    | v => bif (ids v).isEmpty then v else .junk

section
variable {σ : List (Option SB)} {ρ : Names} {T : Nat → Prop} {w : World} {N : Nat}
theorem frz_ok (hst : ∀ p sb, σ[p]? = some (some sb) → ∃ b, ρ p = some b ∧ relB ρ T w sb b ∧ N ≤ b) :
    ∀ (d : Nat) (v : SV) (x : Value), rel ρ T w v x → rel (fun _ => none) (fun c => T c ∧ c < N) w (frz d σ v) x
  | 0, _, _, _ => trivial
  | d + 1, v, x, h => by
    have ih := frz_ok hst d
    have ihL : ∀ (l : List SV) (m : List Value), relL ρ T w l m → relL (fun _ => none) (fun c => T c ∧ c < N) w (l.map (frz d σ)) m := by
      intro l
      induction l with
      | nil => exact fun m h => h
      | cons a l ihl =>
        rintro m ⟨y, r, e, h1, h2⟩
        exact ⟨y, r, e, ih a y h1, ihl r h2⟩
    have flat : ∀ v : SV, rel ρ T w v x → rel (fun _ => none) (fun c => T c ∧ c < N) w (bif (ids v).isEmpty then v else .junk) x := by
      intro v h
      cases hi : (ids v).isEmpty with
      | false => exact trivial
      | true => exact rel_mono (fun _ _ h => h) (fun _ _ h => h.1) (Grow.refl T w) _ _ (rel_flat (ρ2 := fun _ => none) v x (List.isEmpty_iff.1 hi) h)
    have rowAt : ∀ {b st i : Nat} {vs : Array Value} {e : TypeId} {f : Nat × Nat} {cs : List SV}, w.heap[b]? = some (.cells vs e f) → relL (fun _ => none) (fun c => T c ∧ c < N) w cs ((vs.toList.drop (i * st)).take st) → relAt (fun c => T c ∧ c < N) w cs b (0 + i * st) := by
      intro b st i vs e f cs hb hr
      rw [Nat.zero_add]
      refine relAt_cells hr fun j u hj => ?_
      rw [cell_of hb]
      rw [List.getElem?_take] at hj
      split at hj
      · rw [List.getElem?_drop] at hj
        simpa using hj
      · cases hj
    unfold frz
    split
    · rename_i id st len
      split
      · rename_i e cs hs
        cases hc : Nat.ble (len * st) cs.length with
        | false => exact trivial
        | true =>
          have hc := Nat.le_of_ble_eq_true hc
          obtain ⟨b, r1, ⟨vs, r2, m, r, r3, r4⟩, hN⟩ := hst id _ hs
          obtain ⟨b', c, e1, rfl, e3, e4, _⟩ := h
          rw [r1] at e1; cases e1
          refine ⟨some ⟨b, 0 * st, none⟩, c, rfl, ⟨e3, by omega, fun he => by cases he⟩, fun hl => ⟨b, 0, by rw [Nat.zero_mul], (Array.getElem?_eq_some_iff.1 r2).1, fun ht => Nat.not_lt.2 hN ht.2, fun i hi => ?_⟩⟩
          have hmin : Nat.min i (len - 1) = i := Nat.min_eq_left (by omega)
          simp only [hmin]
          refine rowAt r2 (ihL _ _ ?_)
          have hlm := relL_len r4
          have hcut := relL_cut (i * st) st r4
          have : (vs.toList.drop (i * st)).take st = (m.drop (i * st)).take st := by
            rw [r3]
            have h1 : i * st + st ≤ len * st := by
              have : (i + 1) * st ≤ len * st := Nat.mul_le_mul_right _ hi
              rw [Nat.add_mul, Nat.one_mul] at this; exact this
            rw [List.drop_append_of_le_length (by omega), List.take_append_of_le_length (by rw [List.length_drop]; omega)]
          rw [this]
          exact hcut
      · rename_i e st' n g hs
        cases hc : Nat.beq st' st && Nat.ble len n with
        | false => exact trivial
        | true =>
          simp only [Bool.and_eq_true] at hc
          obtain rfl := Nat.eq_of_beq_eq_true hc.1
          have hc := Nat.le_of_ble_eq_true hc.2
          obtain ⟨b, r1, ⟨vs, r2, r3, r4⟩, hN⟩ := hst id _ hs
          obtain ⟨b', c, e1, rfl, e3, e4, _⟩ := h
          rw [r1] at e1; cases e1
          refine ⟨some ⟨b, 0 * st', none⟩, c, rfl, ⟨e3, by omega, fun he => by cases he⟩, fun hl => ⟨b, 0, by rw [Nat.zero_mul], (Array.getElem?_eq_some_iff.1 r2).1, fun ht => Nat.not_lt.2 hN ht.2, fun i hi => ?_⟩⟩
          exact rowAt r2 (relL_mono (T' := fun c => T c ∧ c < N) (fun _ _ h => h) (fun _ _ h => h.1) (Grow.refl T w) _ _ (r4 i (by omega)))
      · exact trivial
    · rename_i id len cap
      split
      · rename_i e cs hs
        cases hc : Nat.ble len cap with
        | false => exact trivial
        | true =>
          have hc := Nat.le_of_ble_eq_true hc
          obtain ⟨b, r1, ⟨vs, r2, r3⟩, hN⟩ := hst id _ hs
          obtain ⟨⟨b', e1, rfl⟩, e2⟩ := h
          rw [r1] at e1; cases e1
          refine ⟨some ⟨b, 0, none⟩, cap, rfl, ⟨hc, e2, fun he => by cases he⟩, fun hl => ⟨b, 0, rfl, (Array.getElem?_eq_some_iff.1 r2).1, fun ht => Nat.not_lt.2 hN ht.2, fun i hi => ?_⟩⟩
          have hmin : Nat.min i (len - 1) = i := Nat.min_eq_left (by omega)
          simp only [hmin]
          exact rowAt r2 (ihL _ _ (relL_cut (i * (cs.length / len)) (cs.length / len) r3))
      · exact trivial
    · obtain ⟨a, rfl, h1⟩ := h
      exact ⟨a, rfl, ihL _ _ h1⟩
    · obtain ⟨a, rfl, h1⟩ := h
      exact ⟨a, rfl, ihL _ _ h1⟩
    · exact flat _ h
end
theorem callOK_frzAll {k : FuncId} {xs : List SV} {v : SV} {σ' : List (Option SB)} (d : Nat) (h : CallOK P k xs [] v σ' []) : CallOK P k xs [] (frz d σ' v) [] [] := by
  intro ρ T w vals h1 h2 h3 h4
  refine (h ρ T w vals h1 h2 h3 h4).mono fun x w' ⟨ρ', T', hd⟩ => ?_
  have hρ : ∀ p, ρ p = none := fun p => by
    cases hp : ρ p with
    | none => rfl
    | some b => exact absurd (h4 p b hp).1 (Nat.not_lt_zero _)
  have hfr : ∀ p b, ρ' p = some b → w.heap.size ≤ b := fun p b hp => by
    rcases hd.fresh p b (Nat.zero_le _) hp with h | ⟨q, hq, _⟩
    · exact h
    · cases hq
  exact ⟨fun _ => none, fun c => T' c ∧ c < w.heap.size, {
    names := fun p b hp => by rw [hρ] at hp; cases hp
    only := fun p b hp => by cases hp
    len := Nat.le_refl _
    val := frz_ok (fun p sb hp => let ⟨b, e1, _, e3⟩ := hd.store p sb hp; ⟨b, e1, e3, hfr p b e1⟩) d v x hd.val
    store := fun p sb hp => by simp at hp
    fresh := fun p b _ hp => by cases hp
    inj := fun p q b _ _ hp => by cases hp
    dirty := fun p hp => by cases hp
    grow := hd.grow
    tback := fun c hc ht => hd.tback c hc ht.1
    below := fun p b hp => by cases hp
    tkeep := fun c hc ht => by
      rcases hd.tkeep c hc ht with h | ⟨q, hq, _⟩
      · exact .inl ⟨h, hc⟩
      · cases hq }⟩
end Go.Se

