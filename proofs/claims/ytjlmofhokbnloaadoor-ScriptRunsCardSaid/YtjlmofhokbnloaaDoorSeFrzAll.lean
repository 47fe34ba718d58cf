/- A result with all that it leads to: from here on nobody turns it. -/
import Derived.Test.YtjlmofhokbnloaaDoorSeFrz
import Derived.Test.YtjlmofhokbnloaaDoorSeArith
namespace Go.Se
variable {P : Program}

/-- A value whose blocks are told in place. -/
def frz : Nat → List (Option SB) → SV → SV
  | 0, _, _ => .junk
  | d + 1, σ, v => match v with
    | .own id 0 st len => match σ[id]? with
      | some (some (.lst _ cs)) => bif Nat.ble (len * st) cs.length then .ro len st (fun i => (cut cs (Nat.min i (len - 1) * st) st).map (frz d σ)) else .junk
      | some (some (.row _ st' n g)) => bif Nat.beq st' st && Nat.ble len n then .ro len st g else .junk
      | _ => .junk
    | .arr id 0 len cap => match σ[id]? with
      | some (some (.cells _ cs)) => bif Nat.ble len cap then .ro len (cs.length / len) (fun i => (cut cs (Nat.min i (len - 1) * (cs.length / len)) (cs.length / len)).map (frz d σ)) else .junk
      | _ => .junk
    | .agg cs => .agg (cs.map (frz d σ))
    | .tup cs => .tup (cs.map (frz d σ))
    | v => bif (ids v).isEmpty then v else .junk

section
variable {σ : List (Option SB)} {ρ : Names} {T : Nat → Prop} {w : World} {N : Nat}
theorem frz_ok (hst : ∀ p sb, σ[p]? = some (some sb) → ∃ b, ρ p = some b ∧ relB ρ T w sb b ∧ N ≤ b) :
    ∀ (d : Nat) (v : SV) (x : Value), rel ρ T w v x → rel (fun _ => none) (fun c => T c ∧ c < N) w (frz d σ v) x
  | 0, _, _, _ => trivial
  | d + 1, v, x, h => by
    have ih := frz_ok hst d
    have ihL : ∀ (l : List SV) (m : List Value), relL ρ T w l m → relL (fun _ => none) (fun c => T c ∧ c < N) w (l.map (frz d σ)) m := by
      intro l
      induction l with
      | nil => exact fun m h => h
      | cons a l ihl =>
        rintro m ⟨y, r, e, h1, h2⟩
        exact ⟨y, r, e, ih a y h1, ihl r h2⟩
    have flat : ∀ v : SV, rel ρ T w v x → rel (fun _ => none) (fun c => T c ∧ c < N) w (bif (ids v).isEmpty then v else .junk) x := by
      intro v h
      cases hi : (ids v).isEmpty with
      | false => exact trivial
      | true => exact rel_mono (fun _ _ h => h) (fun _ _ h => h.1) (Grow.refl T w) _ _ (rel_flat (ρ2 := fun _ => none) v x (List.isEmpty_iff.1 hi) h)
    have rowAt : ∀ {b st i : Nat} {vs : Array Value} {e : TypeId} {f : Nat × Nat} {cs : List SV}, w.heap[b]? = some (.cells vs e f) → relL (fun _ => none) (fun c => T c ∧ c < N) w cs ((vs.toList.drop (i * st)).take st) → relAt (fun c => T c ∧ c < N) w cs b (0 + i * st) := by
      intro b st i vs e f cs hb hr
      rw [Nat.zero_add]
      refine relAt_cells hr fun j u hj => ?_
      rw [cell_of hb]
      rw [List.getElem?_take] at hj
      split at hj
      · rw [List.getElem?_drop] at hj
        simpa using hj
      · cases hj
    unfold frz
    split
    · rename_i id st len
      split
      · rename_i e cs hs
        cases hc : Nat.ble (len * st) cs.length with
        | false => exact trivial
        | true =>
          have hc := Nat.le_of_ble_eq_true hc
          obtain ⟨b, r1, ⟨vs, r2, m, r, r3, r4⟩, hN⟩ := hst id _ hs
          obtain ⟨b', c, e1, rfl, e3, e4, _⟩ := h
          rw [r1] at e1; cases e1
          refine ⟨some ⟨b, 0 * st, none⟩, c, rfl, ⟨e3, by omega, fun he => by cases he⟩, fun hl => ⟨b, 0, by rw [Nat.zero_mul], (Array.getElem?_eq_some_iff.1 r2).1, fun ht => Nat.not_lt.2 hN ht.2, fun i hi => ?_⟩⟩
          have hmin : Nat.min i (len - 1) = i := Nat.min_eq_left (by omega)
          simp only [hmin]
          refine rowAt r2 (ihL _ _ ?_)
          have hlm := relL_len r4
          have hcut := relL_cut (i * st) st r4
          have : (vs.toList.drop (i * st)).take st = (m.drop (i * st)).take st := by
            rw [r3]
            have h1 : i * st + st ≤ len * st := by
              have : (i + 1) * st ≤ len * st := Nat.mul_le_mul_right _ hi
              rw [Nat.add_mul, Nat.one_mul] at this; exact this
            rw [List.drop_append_of_le_length (by omega), List.take_append_of_le_length (by rw [List.length_drop]; omega)]
          rw [this]
          exact hcut
      · rename_i e st' n g hs
        cases hc : Nat.beq st' st && Nat.ble len n with
        | false => exact trivial
        | true =>
          simp only [Bool.and_eq_true] at hc
          obtain rfl := Nat.eq_of_beq_eq_true hc.1
          have hc := Nat.le_of_ble_eq_true hc.2
          obtain ⟨b, r1, ⟨vs, r2, r3, r4⟩, hN⟩ := hst id _ hs
          obtain ⟨b', c, e1, rfl, e3, e4, _⟩ := h
          rw [r1] at e1; cases e1
          refine ⟨some ⟨b, 0 * st', none⟩, c, rfl, ⟨e3, by omega, fun he => by cases he⟩, fun hl => ⟨b, 0, by rw [Nat.zero_mul], (Array.getElem?_eq_some_iff.1 r2).1, fun ht => Nat.not_lt.2 hN ht.2, fun i hi => ?_⟩⟩
          exact rowAt r2 (relL_mono (T' := fun c => T c ∧ c < N) (fun _ _ h => h) (fun _ _ h => h.1) (Grow.refl T w) _ _ (r4 i (by omega)))
      · exact trivial
    · rename_i id len cap
      split
      · rename_i e cs hs
        cases hc : Nat.ble len cap with
        | false => exact trivial
        | true =>
          have hc := Nat.le_of_ble_eq_true hc
          obtain ⟨b, r1, ⟨vs, r2, r3⟩, hN⟩ := hst id _ hs
          obtain ⟨⟨b', e1, rfl⟩, e2⟩ := h
          rw [r1] at e1; cases e1
          refine ⟨some ⟨b, 0, none⟩, cap, rfl, ⟨hc, e2, fun he => by cases he⟩, fun hl => ⟨b, 0, rfl, (Array.getElem?_eq_some_iff.1 r2).1, fun ht => Nat.not_lt.2 hN ht.2, fun i hi => ?_⟩⟩
          have hmin : Nat.min i (len - 1) = i := Nat.min_eq_left (by omega)
          simp only [hmin]
          exact rowAt r2 (ihL _ _ (relL_cut (i * (cs.length / len)) (cs.length / len) r3))
      · exact trivial
    · obtain ⟨a, rfl, h1⟩ := h
      exact ⟨a, rfl, ihL _ _ h1⟩
    · obtain ⟨a, rfl, h1⟩ := h
      exact ⟨a, rfl, ihL _ _ h1⟩
    · exact flat _ h
end
theorem callOK_frzAll {k : FuncId} {xs : List SV} {v : SV} {σ' : List (Option SB)} (d : Nat) (h : CallOK P k xs [] v σ' []) : CallOK P k xs [] (frz d σ' v) [] [] := by
  intro ρ T w vals h1 h2 h3 h4
  refine (h ρ T w vals h1 h2 h3 h4).mono fun x w' ⟨ρ', T', hd⟩ => ?_
  have hρ : ∀ p, ρ p = none := fun p => by
    cases hp : ρ p with
    | none => rfl
    | some b => exact absurd (h4 p b hp).1 (Nat.not_lt_zero _)
  have hfr : ∀ p b, ρ' p = some b → w.heap.size ≤ b := fun p b hp => by
    rcases hd.fresh p b (Nat.zero_le _) hp with h | ⟨q, hq, _⟩
    · exact h
    · cases hq
  exact ⟨fun _ => none, fun c => T' c ∧ c < w.heap.size, {
    names := fun p b hp => by rw [hρ] at hp; cases hp
    only := fun p b hp => by cases hp
    len := Nat.le_refl _
    val := frz_ok (fun p sb hp => let ⟨b, e1, _, e3⟩ := hd.store p sb hp; ⟨b, e1, e3, hfr p b e1⟩) d v x hd.val
    store := fun p sb hp => by simp at hp
    fresh := fun p b _ hp => by cases hp
    inj := fun p q b _ _ hp => by cases hp
    dirty := fun p hp => by cases hp
    grow := hd.grow
    tback := fun c hc ht => hd.tback c hc ht.1
    below := fun p b hp => by cases hp
    tkeep := fun c hc ht => by
      rcases hd.tkeep c hc ht with h | ⟨q, hq, _⟩
      · exact .inl ⟨h, hc⟩
      · cases hq }⟩
end Go.Se

/- A list of one element, told as a row in which it stands everywhere: so that the last element of a list that grows can be read. -/
namespace Go.Se
def soloS (t : SV) (s : Store) : Store :=
  match t with
  | .own b 0 st len => match look s b with
    | some (.lst e cs) => bif (ids.idsL cs).isEmpty && (Nat.beq cs.length st && Nat.beq len 1) then (b, some (.row e st 1 (fun _ => cs))) :: s else s
    | _ => s
  | _ => s
def solo (t : Nat) (s : St) : St := ⟨s.tmps, soloS (get s.tmps t) s.store, s.nxt, s.dirty, s.nt⟩
def solos : List Nat → St → St
  | [], s => s
  | t :: r, s => solos r (solo t s)
def keepQ (R : List (Nat × Keep)) (ts : List Nat) (n0 blk : Nat) (s : St) : Option St := keepW R n0 blk (solos ts s)
theorem relB_solo {ρ : Names} {T : Nat → Prop} {w : World} {e : TypeId} {cs : List SV} {st b : Nat} (hf : ids.idsL cs = []) (hl : cs.length = st) (h : relB ρ T w (.lst e cs) b) : relB ρ T w (.row e st 1 (fun _ => cs)) b := by
  obtain ⟨vs, h1, m, r⟩ := relB_row (st := st) (len := 1) hf (by omega) h
  refine ⟨vs, h1, m, fun i hi => ?_⟩
  obtain rfl : i = 0 := by omega
  have := r 0 hi
  have hc : cut cs (0 * st) st = cs := by
    show (cs.drop (0 * st)).take st = cs
    rw [Nat.zero_mul, List.drop_zero, ← hl, List.take_length]
  have this : relL (fun _ => none) T w (cut cs (0 * st) st) (List.take st (List.drop (0 * st) vs.toList)) := this
  rw [hc] at this
  exact this
theorem solo_less {P : Program} {n t : Nat} {s : St} : Less P n s (solo t s) := by
  intro B act w hB hn
  have hgo : ∀ (b : Nat) (e : TypeId) (cs : List SV) (st : Nat), look s.store b = some (.lst e cs) → ids.idsL cs = [] → cs.length = st →
      Now B ⟨s.tmps, (b, some (.row e st 1 (fun _ => cs))) :: s.store, s.nxt, s.dirty, s.nt⟩ act w := by
    intro b e cs st hl hf hlen
    obtain ⟨h1, ρ, T, h⟩ := hn
    have hlook : ∀ id, look ((b, some (SB.row e st 1 (fun _ => cs))) :: s.store) id = if id = b then some (SB.row e st 1 (fun _ => cs)) else look s.store id := by
      intro id
      simp only [look]
      by_cases hid : id = b
      · subst hid; simp
      · rw [if_neg hid, show Nat.beq b id = false by rw [Bool.eq_false_iff]; intro e; exact hid (Nat.eq_of_beq_eq_true e).symm]; rfl
    have hsome : ∀ id, (look ((b, some (SB.row e st 1 (fun _ => cs))) :: s.store) id).isSome → (look s.store id).isSome := by
      intro id hid
      rw [hlook] at hid
      by_cases hb : id = b
      · rw [hb, hl]; rfl
      · rw [if_neg hb] at hid; exact hid
    have hnone : ∀ id, look s.store id = none → look ((b, some (SB.row e st 1 (fun _ => cs))) :: s.store) id = none := by
      intro id hid
      rw [hlook, if_neg]; · exact hid
      rintro rfl; rw [hl] at hid; cases hid
    refine ⟨h1, ρ, T, { h with
      store := fun id sb hid => ?_
      inj := fun i j c hi hj h1 h2 => h.inj i j c (hsome i hi) (hsome j hj) h1 h2
      tkeep := fun c hc hT => (h.tkeep c hc hT).imp (fun x => x) fun ⟨q, q1, q2, q3, q4⟩ => ⟨q, q1, q2, hnone q q3, q4⟩
      fresh := fun id c h2 h3 h4 => (h.fresh id c (hsome id h2) h3 h4).imp (fun x => x) fun ⟨q, q1, q2, q3, q4⟩ => ⟨q, q1, q2, hnone q q3, q4⟩ }⟩
    rw [hlook] at hid
    by_cases hb : id = b
    · rw [if_pos hb] at hid
      cases hid
      subst hb
      obtain ⟨hA, c, b1, b2, b3⟩ := h.store id _ hl
      exact ⟨hA, c, b1, b2, relB_solo hf hlen b3⟩
    · rw [if_neg hb] at hid
      exact h.store id sb hid
  unfold solo soloS
  split
  · rename_i b st len _
    split
    · rename_i e cs hl
      cases hc : (ids.idsL cs).isEmpty && (Nat.beq cs.length st && Nat.beq len 1) with
      | false => exact hn
      | true =>
        simp only [Bool.and_eq_true, List.isEmpty_iff] at hc
        exact hgo b e cs st hl hc.1 (Nat.eq_of_beq_eq_true hc.2.1)
    · exact hn
  · exact hn
theorem solos_less {P : Program} {n : Nat} : ∀ (ts : List Nat) {s : St}, Less P n s (solos ts s)
  | [], _ => fun _ _ _ _ h => h
  | _ :: r, _ => fun B a w hB hn => solos_less r B a w hB (solo_less B a w hB hn)
theorem keepQ_weaker {P : Program} (n0 : Nat) (R : List (Nat × Keep)) (ts : List Nat) : Weaker P n0 (keepQ R ts n0) :=
  fun blk s s' h B a w hB hn => keepW_weaker n0 R blk (solos ts s) s' h B a w hB (solos_less ts B a w hB hn)
end Go.Se

