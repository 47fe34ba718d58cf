/- Part 11: the state of a call that runs, and one operation of it. -/
import Derived.Test.YtheedafdaolooaaSeEval
namespace Go.Se
variable {P : Program}

/-- How the call began. -/
structure Base where
  w : World
  ρ : Names
  T : Nat → Prop
  n : Nat

/-- What holds of a frame and of memory: tm tells the temporaries, sf the blocks, A which names are given, D which blocks may have been turned. -/
structure Holds (B : Base) (tm : Nat → SV) (sf : Nat → Option SB) (A : Nat → Prop) (D : List Nat) (nt : Nat) (a : Act) (w : World) (ρ : Names) (T : Nat → Prop) : Prop where
  defers : a.defers = []
  size : a.tmps.size = nt
  tmps : ∀ t, rel ρ T w (tm t) (a.tmps.getD t undef)
  store : ∀ id sb, sf id = some sb → A id ∧ ∃ b, ρ id = some b ∧ T b ∧ relB ρ T w sb b
  names : ∀ id b, ρ id = some b → A id ∧ b < w.heap.size
  inj : ∀ i j b, (sf i).isSome → (sf j).isSome → ρ i = some b → ρ j = some b → i = j
  base : ∀ id, id < B.n → A id
  full : ∀ p, p < B.n → ∃ b, B.ρ p = some b
  grow : Grow (fun b => ∃ p, p ∈ D ∧ p < B.n ∧ B.ρ p = some b) B.w w
  old : ∀ p b, B.ρ p = some b → p < B.n ∧ ρ p = some b
  tback : ∀ b, b < B.w.heap.size → T b → B.T b
  tkeep : ∀ b, b < B.w.heap.size → B.T b → T b ∨ ∃ q, q ∈ D ∧ q < B.n ∧ sf q = none ∧ B.ρ q = some b
  fresh : ∀ id b, (sf id).isSome → B.n ≤ id → ρ id = some b → B.w.heap.size ≤ b ∨ ∃ q, q ∈ D ∧ q < B.n ∧ sf q = none ∧ B.ρ q = some b

def upd (f : Nat → SV) (d : Option Nat) (v : SV) : Nat → SV :=
  match d with
  | some d => fun t => if t = d then v else f t
  | none => f

def updS (f : Nat → Option SB) (u : Store) : Nat → Option SB :=
  match u with
  | [] => f
  | (i, o) :: u => fun id => if id = i then o else updS f u id

theorem updS_cases (f : Nat → Option SB) : ∀ (u : Store) (id : Nat), (∃ o, (id, o) ∈ u ∧ updS f u id = o) ∨ ((∀ o, (id, o) ∉ u) ∧ updS f u id = f id)
  | [], id => Or.inr (And.intro (fun _ h => nomatch h) rfl)
  | (i, o) :: u, id => by
    by_cases h : id = i
    · subst h
      exact .inl ⟨o, by simp, by simp [updS]⟩
    · rcases updS_cases f u id with ⟨o', h1, h2⟩ | ⟨h1, h2⟩
      · exact .inl ⟨o', by simp [h1], by simp [updS, h, h2]⟩
      · exact .inr ⟨fun o' ho => by
          simp only [List.mem_cons, Prod.mk.injEq] at ho
          rcases ho with ⟨h3, _⟩ | ho
          · exact h h3
          · exact h1 o' ho, by simp [updS, h, h2]⟩

theorem look_updS (u s : Store) (id : Nat) : look (u ++ s) id = updS (look s) u id := by
  induction u with
  | nil => rfl
  | cons p u ih =>
    obtain ⟨i, o⟩ := p
    simp only [List.cons_append, look, updS]
    by_cases h : id = i
    · subst h; simp
    · have : Nat.beq i id = false := by
        rw [Bool.eq_false_iff]; intro e; exact h (Nat.eq_of_beq_eq_true e).symm
      rw [this, if_neg h]; exact ih

theorem put_getD (a : Act) (d : Nat) (x : Value) (h : d < a.tmps.size) (t : Nat) : (a.put (some d) x).tmps.getD t undef = if t = d then x else a.tmps.getD t undef := by
  simp only [Act.put, Array.getD_eq_getD_getElem?]
  by_cases e : t = d
  · subst e; simp [h]
  · rw [Array.getElem?_setIfInBounds_ne (Ne.symm e), if_neg e]

/-- One operation's end. -/
theorem Holds.done {B : Base} {tm : Nat → SV} {sf : Nat → Option SB} {A : Nat → Prop} {D : List Nat} {nt : Nat} {a : Act} {w : World} {ρ : Names} {T : Nat → Prop}
    (h : Holds B tm sf A D nt a w ρ T) {nxt n : Nat} {v : SV} {u : Store} {wr : List Nat} {ρ' : Names} {T' : Nat → Prop} {w' : World} {x : Value} {dst : Option Nat}
    (hd : Done ρ T w nxt n v u wr ρ' T' w' x) (hdst : ∀ d, dst = some d → d < nt) (hB : B.n ≤ nxt)
    (hnew : ∀ id, nxt ≤ id → id < n → ¬ A id) (hwr : ∀ id, id ∈ wr → (sf id).isSome) (hf : ∀ id x y, (id, x) ∈ u → (id, y) ∈ u → x = y)
    {D' : List Nat} (hD : ∀ p, p ∈ D → p ∈ D') (hD' : ∀ p, p ∈ wr → p ∈ D') {A' : Nat → Prop} (hA : ∀ id, A' id ↔ A id ∨ (nxt ≤ id ∧ id < n)) :
    Holds B (upd tm dst v) (updS sf u) A' D' nt (a.put dst x) w' ρ' T' := by
  have hgT : Grow T w w' := hd.grow.mono fun b hb ⟨id, h1, h2⟩ => by
    obtain ⟨sb, hsb⟩ := Option.isSome_iff_exists.1 (hwr id h1)
    obtain ⟨_, b', h3, h4, _⟩ := h.store id sb hsb
    rw [h2] at h3; cases h3; exact h4
  have hmono : ∀ (s : SV) (y : Value), rel ρ T w s y → rel ρ' T' w' s y := rel_mono hd.names hd.tback hgT
  -- a block that is told as before, and not by u
  have hkeep : ∀ id sb, sf id = some sb → (∀ o, (id, o) ∉ u) → id ∉ wr → ∃ b, ρ' id = some b ∧ T' b ∧ relB ρ' T' w' sb b := by
    intro id sb hsb hnu hnw
    obtain ⟨_, b, h3, h4, h5⟩ := h.store id sb hsb
    have hlt := relB_lt h5
    refine ⟨b, hd.names _ _ h3, ?_, relB_mono hd.names hd.tback hgT (hd.grow.same b hlt ?_) h5⟩
    · rcases hd.tkeep b hlt h4 with h6 | ⟨j, h6, h7, h8⟩
      · exact h6
      · have := h.inj id j b (by rw [hsb]; rfl) (hwr j h6) h3 h8
        subst this
        exact absurd h7 (hnu _)
    · rintro ⟨j, h6, h7⟩
      have := h.inj id j b (by rw [hsb]; rfl) (hwr j h6) h3 h7
      subst this
      exact hnw h6
  have hdead : ∀ q, sf q = none → q < B.n → updS sf u q = none := by
    intro q hq hqn
    rcases updS_cases sf u q with ⟨o, h1, h2⟩ | ⟨_, h2⟩
    · rcases hd.keys q o h1 with h3 | h3
      · have := hwr q h3; rw [hq] at this; cases this
      · omega
    · rw [h2]; exact hq
  have hdeadU : ∀ q, (q, none) ∈ u → updS sf u q = none := by
    intro q hq
    rcases updS_cases sf u q with ⟨o, h1, h2⟩ | ⟨h1, _⟩
    · rw [h2]; exact hf q o none h1 hq
    · exact absurd hq (h1 _)
  have hconsumed : ∀ j b, j ∈ wr → (j, none) ∈ u → ρ j = some b →
      (B.w.heap.size ≤ b ∨ ∃ q, q ∈ D' ∧ q < B.n ∧ updS sf u q = none ∧ B.ρ q = some b) := by
    intro j b hj hju hjb
    by_cases hjn : j < B.n
    · by_cases hold : b < B.w.heap.size
      · right
        refine ⟨j, hD' j hj, hjn, hdeadU j hju, ?_⟩
        obtain ⟨b', hb'⟩ := h.full j hjn
        have := (h.old j b' hb').2
        rw [hjb] at this; cases this
        exact hb'
      · left; omega
    · rcases h.fresh j b (hwr j hj) (by omega) hjb with h1 | ⟨q, h1, h2, h3, h4⟩
      · exact .inl h1
      · exact .inr ⟨q, hD q h1, h2, hdead q h3 h2, h4⟩
  -- what is alive now and has an old name was alive
  have halive : ∀ (i : Nat) (b : Nat), (updS sf u i).isSome → A i → (sf i).isSome := by
    intro i b hi hAi
    rcases updS_cases sf u i with ⟨o, h1, h2⟩ | ⟨_, h2⟩
    · rcases hd.keys i o h1 with h3 | h3
      · exact hwr i h3
      · exact absurd hAi (hnew i h3.1 h3.2)
    · rw [h2] at hi; exact hi
  have holdname : ∀ i b, ρ' i = some b → ¬ (nxt ≤ i ∧ i < n) → ρ i = some b := by
    intro i b hi hn
    exact (hd.only i b hi).resolve_right hn
  have mixed : ∀ i j b, (nxt ≤ i ∧ i < n) → ¬ (nxt ≤ j ∧ j < n) → (updS sf u j).isSome → ρ' i = some b → ρ' j = some b → False := by
    intro i j b hi hj hjs hib hjb
    have hjo := holdname j b hjb hj
    have hAj := (h.names j b hjo).1
    rcases hd.fresh i b hi.1 hi.2 hib with h1 | ⟨q, h1, h2, h3⟩
    · have := (h.names j b hjo).2; omega
    · have := h.inj q j b (hwr q h1) (halive j b hjs hAj) h3 hjo
      subst this
      rw [hdeadU q h2] at hjs; cases hjs
  refine { defers := ?_, size := ?_, tmps := ?_, store := ?_, names := ?_, inj := ?_, base := fun id hid => (hA id).2 (.inl (h.base id hid)), full := h.full, grow := ?_, old := ?_, tback := ?_, tkeep := ?_, fresh := ?_ }
  · cases dst <;> exact h.defers
  · cases dst with
    | none => exact h.size
    | some d => simp [Act.put, h.size]
  · intro t
    cases dst with
    | none => exact hmono _ _ (h.tmps t)
    | some d =>
      rw [put_getD a d x (by rw [h.size]; exact hdst d rfl)]
      unfold upd
      by_cases e : t = d
      · simp only [e, if_true]; exact hd.val
      · simp only [e, if_false]; exact hmono _ _ (h.tmps t)
  · intro id sb hid
    rcases updS_cases sf u id with ⟨o, h1, h2⟩ | ⟨h1, h2⟩
    · rw [h2] at hid
      subst hid
      refine ⟨(hA id).2 ?_, hd.turned id sb h1⟩
      rcases hd.keys id _ h1 with h3 | h3
      · obtain ⟨sb', hsb'⟩ := Option.isSome_iff_exists.1 (hwr id h3)
        exact .inl (h.store id sb' hsb').1
      · exact .inr h3
    · rw [h2] at hid
      refine ⟨(hA id).2 (.inl (h.store id sb hid).1), hkeep id sb hid h1 fun hw => ?_⟩
      obtain ⟨o, ho⟩ := hd.cover id hw
      exact h1 o ho
  · intro id b hid
    rcases hd.only id b hid with h1 | h1
    · obtain ⟨h2, h3⟩ := h.names id b h1
      exact ⟨(hA id).2 (.inl h2), Nat.lt_of_lt_of_le h3 hd.grow.size⟩
    · refine ⟨(hA id).2 (.inr h1), ?_⟩
      exact hd.below id b h1.1 h1.2 hid
  · intro i j b hi hj hib hjb
    by_cases hin : nxt ≤ i ∧ i < n <;> by_cases hjn : nxt ≤ j ∧ j < n
    · exact hd.inj i j b hin.1 hin.2 hjn.1 hjn.2 hib hjb
    · exact (mixed i j b hin hjn hj hib hjb).elim
    · exact (mixed j i b hjn hin hi hjb hib).elim
    · have h1 := holdname i b hib hin
      have h2 := holdname j b hjb hjn
      exact h.inj i j b (halive i b hi (h.names i b h1).1) (halive j b hj (h.names j b h2).1) h1 h2
  · refine (h.grow.mono fun b _ ⟨p, h1, h2, h3⟩ => ⟨p, hD p h1, h2, h3⟩).trans hd.grow fun b hb ⟨id, h1, h2⟩ => ?_
    by_cases hin : id < B.n
    · obtain ⟨b', hb'⟩ := h.full id hin
      have := (h.old id b' hb').2
      rw [h2] at this; cases this
      exact ⟨id, hD' id h1, hin, hb'⟩
    · rcases h.fresh id b (hwr id h1) (by omega) h2 with h3 | ⟨q, h3, h4, _, h5⟩
      · omega
      · exact ⟨q, hD q h3, h4, h5⟩
  · intro p b hp
    exact ⟨(h.old p b hp).1, hd.names _ _ (h.old p b hp).2⟩
  · intro b hb hT
    exact h.tback b hb (hd.tback b (Nat.lt_of_lt_of_le hb h.grow.size) hT)
  · intro b hlt hb
    rcases h.tkeep b hlt hb with h1 | ⟨q, h1, h2, h3, h4⟩
    · rcases hd.tkeep b (Nat.lt_of_lt_of_le hlt h.grow.size) h1 with h2 | ⟨j, h2, h3, h4⟩
      · exact .inl h2
      · rcases hconsumed j b h2 h3 h4 with h5 | h5
        · omega
        · exact .inr h5
    · exact .inr ⟨q, hD q h1, h2, hdead q h3 h2, h4⟩
  · intro id b hid hn hib
    by_cases hin : nxt ≤ id ∧ id < n
    · rcases hd.fresh id b hin.1 hin.2 hib with h1 | ⟨q, h1, h2, h3⟩
      · left; exact Nat.le_trans h.grow.size h1
      · exact hconsumed q b h1 h2 h3
    · have h1 := holdname id b hib hin
      rcases h.fresh id b (halive id b hid (h.names id b h1).1) hn h1 with h2 | ⟨q, h2, h3, h4, h5⟩
      · exact .inl h2
      · exact .inr ⟨q, hD q h2, h3, hdead q h4 h3, h5⟩

end Go.Se
