/- Rows of one's own that a call hands out, told as rows that nobody turns. -/
import Derived.Test.YtjlmofhokbnloaaDoorSeData
import Derived.Test.YtjlmofhokbnloaaDoorSeArith
namespace Go.Se
variable {P : Program}

theorem nils_ro {ρ : Names} {T : Nat → Prop} {w : World} {st : Nat} {g : Nat → List SV} {v : Value} (hv : rel ρ T w .nils v) : rel ρ T w (.ro 0 st g) v := by
  have h : v = .slice none 0 0 := hv
  exact ⟨none, 0, h, ⟨Nat.le_refl _, by decide, fun _ => rfl⟩, fun h0 => absurd h0 (Nat.lt_irrefl 0)⟩

theorem Runs.mono {k : FuncId} {vals : Array Value} {w : World} {R R' : Value → World → Prop} (h : Runs P k vals w R) (hR : ∀ x w', R x w' → R' x w') : Runs P k vals w R' := by
  rcases h with ⟨fn, h1, h2, h3, h4⟩ | ⟨x, w', h1, h2⟩
  · exact .inl ⟨fn, h1, h2, h3, h4.mono fun e w' ⟨x, h5, h6⟩ => ⟨x, h5, hR x w' h6⟩⟩
  · exact .inr ⟨x, w', h1, hR x w' h2⟩

/-- A result that is a row of one's own: from here on nobody turns it. -/
theorem callOK_frz {k : FuncId} {xs : List SV} {n st e : Nat} {g g' : Nat → List SV} (hg : ∀ i, i < n → g i = g' i ∧ (g' i).length = st) (h : CallOK P k xs [] (.own 0 0 st n) [some (.row e st n g)] []) : CallOK P k xs [] (.ro n st g') [] [] := by
  intro ρ T w vals h1 h2 h3 h4
  refine (h ρ T w vals h1 h2 h3 h4).mono fun x w' ⟨ρ', T', hd⟩ => ?_
  obtain ⟨b, c, r1, rfl, r2, r3, _⟩ := hd.val
  obtain ⟨b', r4, r5, vs, r6, r7, r8⟩ := hd.store 0 _ rfl
  rw [r1] at r4; cases r4
  have hρ : ∀ p, ρ p = none := fun p => by
    cases hp : ρ p with
    | none => rfl
    | some b => exact absurd (h4 p b hp).1 (Nat.not_lt_zero _)
  have hnew : w.heap.size ≤ b := by
    rcases hd.fresh 0 b (Nat.le_refl _) r1 with h | ⟨q, hq, _⟩
    · exact h
    · cases hq
  refine ⟨fun _ => none, fun c => T' c ∧ c ≠ b, {
    names := fun p b hp => by rw [hρ] at hp; cases hp
    only := fun p b hp => by cases hp
    len := Nat.le_refl _
    val := ?_
    store := fun p sb hp => by simp at hp
    fresh := fun p b _ hp => by cases hp
    inj := fun p q b _ _ hp => by cases hp
    dirty := fun p hp => by cases hp
    grow := hd.grow
    tback := fun c hc ht => hd.tback c hc ht.1
    below := fun p b hp => by cases hp
    tkeep := fun c hc ht => by
      rcases hd.tkeep c hc ht with h | ⟨q, hq, _⟩
      · exact .inl ⟨h, by omega⟩
      · cases hq }⟩
  refine ⟨some ⟨b, 0 * st, none⟩, c, rfl, ⟨r2, by omega, fun he => by cases he⟩, fun _ => ⟨b, 0, by rw [Nat.zero_mul], (Array.getElem?_eq_some_iff.1 r6).1, fun ht => ht.2 rfl, fun i hi => ?_⟩⟩
  obtain ⟨e1, e2⟩ := hg i hi
  rw [← e1]
  have hr := relL_mono (T' := fun c => T' c ∧ c ≠ b) (fun _ _ h => h) (fun _ _ h => h.1) (Grow.refl T' w') _ _ (r8 i hi)
  rw [Nat.zero_add]
  refine relAt_cells hr fun j u hj => ?_
  rw [cell_of r6]
  rw [List.getElem?_take] at hj
  split at hj
  · rw [List.getElem?_drop] at hj
    simpa using hj
  · cases hj

theorem callOK_nils {k : FuncId} {xs : List SV} {σ σ' : List (Option SB)} {d : List Nat} {st : Nat} {g : Nat → List SV} (h : CallOK P k xs σ .nils σ' d) : CallOK P k xs σ (.ro 0 st g) σ' d :=
  fun ρ T w vals h1 h2 h3 h4 => (h ρ T w vals h1 h2 h3 h4).mono fun _ _ ⟨ρ', T', hd⟩ => ⟨ρ', T', { hd with val := nils_ro hd.val }⟩

/-- A result told otherwise. -/
theorem callOK_val {k : FuncId} {xs : List SV} {σ σ' : List (Option SB)} {d : List Nat} {v v' : SV} (hv : ∀ ρ T w x, rel ρ T w v x → rel ρ T w v' x) (h : CallOK P k xs σ v σ' d) : CallOK P k xs σ v' σ' d :=
  fun ρ T w vals h1 h2 h3 h4 => (h ρ T w vals h1 h2 h3 h4).mono fun _ _ ⟨ρ', T', hd⟩ => ⟨ρ', T', { hd with val := hv _ _ _ _ hd.val }⟩

/-- A row of no length, of one's own: from here on nobody turns it. -/
theorem callOK_drop0 {k : FuncId} {xs : List SV} {st : Nat} {sb : SB} {g : Nat → List SV} (h : CallOK P k xs [] (.arr 0 0 0 0) [some sb] []) : CallOK P k xs [] (.ro 0 st g) [] [] := by
  intro ρ T w vals h1 h2 h3 h4
  refine (h ρ T w vals h1 h2 h3 h4).mono fun x w' ⟨ρ', T', hd⟩ => ?_
  obtain ⟨⟨b, r1, rfl⟩, r2⟩ := hd.val
  have hρ : ∀ p, ρ p = none := fun p => by
    cases hp : ρ p with
    | none => rfl
    | some b => exact absurd (h4 p b hp).1 (Nat.not_lt_zero _)
  refine ⟨fun _ => none, T', {
    names := fun p b hp => by rw [hρ] at hp; cases hp
    only := fun p b hp => by cases hp
    len := Nat.le_refl _
    val := ⟨_, _, rfl, ⟨Nat.le_refl _, r2, fun he => by cases he⟩, fun h0 => absurd h0 (Nat.lt_irrefl 0)⟩
    store := fun p sb hp => by simp at hp
    fresh := fun p b _ hp => by cases hp
    inj := fun p q b _ _ hp => by cases hp
    dirty := fun p hp => by cases hp
    grow := hd.grow
    tback := hd.tback
    below := fun p b hp => by cases hp
    tkeep := fun c hc ht => by
      rcases hd.tkeep c hc ht with h | ⟨q, hq, _⟩
      · exact .inl h
      · cases hq }⟩

/-- A row of no length is nil, or it is not. -/
theorem callOK_ro0 {k : FuncId} {st st' : Nat} {g g' : Nat → List SV} {sb : SB} (h0 : CallOK P k [.nils] [] .nils [] []) (h1 : CallOK P k [.emp] [] (.arr 0 0 0 0) [some sb] []) :
    CallOK P k [.ro 0 st g] [] (.ro 0 st' g') [] [] := by
  intro ρ T w vals hv h2 h3 h4
  obtain ⟨v, r, hvs, hr, hl⟩ := hv
  obtain ⟨a, c, rfl, ⟨_, _, hc⟩, _⟩ := hr
  cases a with
  | none =>
    rw [hc rfl] at hvs
    exact callOK_nils h0 ρ T w vals ⟨_, r, hvs, rfl, hl⟩ h2 h3 h4
  | some a => exact callOK_drop0 h1 ρ T w vals ⟨_, r, hvs, ⟨a, c, rfl⟩, hl⟩ h2 h3 h4

/-- slices.Clone of what nobody turns. -/
theorem callOK_clone {k : FuncId} {n st e : Nat} {g : Nat → List SV} (hg : ∀ i, i < n → (g i).length = st) (hn : 0 < n → CallOK P k [.ro n st g] [] (.own 0 0 st n) [some (.row e st n g)] [])
    (h0 : CallOK P k [.nils] [] .nils [] []) (h1 : CallOK P k [.emp] [] (.arr 0 0 0 0) [some (.cells e [])] []) : CallOK P k [.ro n st g] [] (.ro n st g) [] [] := by
  rcases Nat.eq_zero_or_pos n with rfl | h
  · exact callOK_ro0 h0 h1
  · exact callOK_frz (fun i hi => ⟨rfl, hg i hi⟩) (hn h)

/-- What is said of a call by ranges, too. -/
theorem sat_of_ok {k : FuncId} {xs : List SV} {σ : List (Option SB)} {Φ : KC → Prop} (hΦ : ∀ K, Φ K → ∃ v σ' d, K v σ' d) (h : okL xs → okS σ → Sat P k xs σ Φ) : Sat P k xs σ Φ := fun K hK => by
  by_cases h1 : okL xs ∧ okS σ
  · exact h h1.1 h1.2 K hK
  · obtain ⟨v, σ', d, hv⟩ := hΦ K hK
    exact ⟨v, σ', d, hv, callOK_of_ok fun h2 h3 => absurd ⟨h2, h3⟩ h1⟩
end Go.Se

/- Loops, by what holds at each of their states. -/
namespace Go.Se
variable {env : Env} {W : Nat → St → Option St} {fn : Func} {path : List Nat} {blk : Nat} {KK : Ex → St → Prop}

/-- What comes behind a round: the next one, or what comes behind the loop. -/
abbrev nextK (X : St → Prop) (KK : Ex → St → Prop) : Ex → St → Prop := fun e s => match e with
  | .normal => X s
  | e => KK e s

/-- A loop whose states grow less. -/
theorem loop_m {A : Type} (S : A → St) (m : A → Nat) (I : A → Prop)
    (hr : ∀ a, I a → ∀ X : St → Prop, (∀ a', I a' → m a' < m a → X (S a')) → roundE env W fn path blk (nextK X KK) (S a)) :
    ∀ (f : Nat) (a : A), I a → m a < f → iter (roundE env W fn path blk) KK f (S a)
  | 0, _, _, h => absurd h (Nat.not_lt_zero _)
  | f + 1, a, ha, h => by
    show roundE env W fn path blk (nextK (iter (roundE env W fn path blk) KK f) KK) (S a)
    exact hr a ha _ fun a' ha' hm => loop_m S m I hr f a' ha' (Nat.lt_of_lt_of_le hm (Nat.le_of_lt_succ h))

/-- A loop that counts up. -/
theorem loop_up (S : Nat → St) (len : Nat) (I : Nat → Prop)
    (hr : ∀ i, i < len → I i → ∀ X : St → Prop, (I (i + 1) → X (S (i + 1))) → roundE env W fn path blk (nextK X KK) (S i))
    (he : I len → ∀ X : St → Prop, roundE env W fn path blk (nextK X KK) (S len)) (h0 : I 0) :
    iter (roundE env W fn path blk) KK (len + 1) (S 0) :=
  loop_m (fun a : Nat => S a) (fun a => len - a) (fun a => a ≤ len ∧ I a) (fun a ⟨h1, h2⟩ X hX => by
    rcases Nat.lt_or_eq_of_le h1 with h | rfl
    · exact hr a h h2 X fun h3 => hX (a + 1) ⟨h, h3⟩ (by omega)
    · exact he h2 X) (len + 1) 0 ⟨Nat.zero_le _, h0⟩ (by omega)

theorem wi64_succ {i n : Nat} (hi : i < n) (hn : n < 9223372036854775808) : IntKind.i64.wrap ((i : Int) + 1) = ((i + 1 : Nat) : Int) := by
  rw [IntKind.wrap_i64]; omega

/-- The first that is so, from a place on; -1: none. -/
def fstB (p : Nat → Bool) : Nat → Nat → Int
  | 0, _ => -1
  | f + 1, i => bif p i then (i : Int) else fstB p f (i + 1)
def anyB (p : Nat → Bool) (n : Nat) : Bool := decide (fstB p n 0 ≥ 0)
theorem in_f {i n : Nat} {P : Prop} (hi : i < n) (h : (decide (0 ≤ (i : Int)) && decide ((i : Int) < (n : Int))) = false) : P := by
  simp only [Bool.and_eq_false_iff, decide_eq_false_iff_not] at h; omega
theorem lt_f {i n : Nat} {P : Prop} (hi : i < n) (h : decide ((i : Int) < (n : Int)) = false) : P := by
  have := of_decide_eq_false h; omega
theorem lt_t {n : Nat} {P : Prop} (h : decide ((n : Int) < (n : Int)) = true) : P := by
  have := of_decide_eq_true h; omega
end Go.Se

/- Rows that a loop builds by append, told by a list. -/
namespace Go.Se
variable {P : Program}
/-- What a slice and its block (so named) say of a list. -/
def tellsL {α : Type} (e st id : Nat) (f : α → List SV) (L : List α) (o : SV) (b : Option SB) : Prop :=
  (L = [] ∧ o = .nils ∧ b = none) ∨ (∃ g, L ≠ [] ∧ o = .own id 0 st L.length ∧ b = some (.row e st L.length g) ∧ ∀ j (h : j < L.length), g j = f L[j])
theorem tells_nil {α : Type} {e st id : Nat} {f : α → List SV} : tellsL e st id f [] .nils none := .inl ⟨rfl, rfl, rfl⟩
theorem cut_first {st : Nat} {c : List SV} (h : c.length = st) : cut c (0 * st) st = c := by
  unfold cut; rw [Nat.zero_mul, List.drop_zero, ← h, List.take_length]
theorem tells_first {α : Type} {e st id : Nat} {f : α → List SV} {x : α} {c : List SV} (hc : c = f x) (h : c.length = st) : tellsL e st id f [x] (.own id 0 st 1) (some (.row e st 1 fun i => cut c (i * st) st)) :=
  .inr ⟨_, by simp, rfl, rfl, fun j hj => by
    have hj' : j < 1 := hj
    obtain rfl : j = 0 := by omega
    show cut c (0 * st) st = _
    rw [cut_first h, hc]; rfl⟩
theorem tells_push {α : Type} {e st id m : Nat} {f : α → List SV} {L : List α} {g : Nat → List SV} {x : α} {c : List SV} (hc : c = f x) (hm : m = L.length) (hg : ∀ j (h : j < L.length), g j = f L[j]) :
    tellsL e st id f (L ++ [x]) (.own id 0 st (m + 1)) (some (.row e st (m + 1) (rowPut m c g))) :=
  .inr ⟨rowPut m c g, by simp, by rw [hm]; simp, by rw [hm]; simp, fun j hj => by
    unfold rowPut
    by_cases h : j = m
    · subst h
      rw [decide_eq_true rfl]
      simp only [cond_true, hm, List.getElem_concat_length]
      exact hc
    · rw [decide_eq_false h]
      simp only [List.length_append, List.length_cons, List.length_nil] at hj
      have hj' : j < L.length := by omega
      rw [List.getElem_append_left hj']
      exact hg j hj'⟩
/-- The end of such a call. -/
def rowsEnd {α : Type} (e st : Nat) (f : α → List SV) (L : List α) (K : KC) : Prop :=
  (L = [] → K .nils [] []) ∧ ∀ g, L ≠ [] → (∀ j (h : j < L.length), g j = f L[j]) → K (.own 0 0 st L.length) [some (.row e st L.length g)] []
/-- A list, told as a row. -/
def listG {α : Type} (f : α → List SV) (d : α) (L : List α) : Nat → List SV := fun i => f (L.getD i d)
theorem listG_at {α : Type} {f : α → List SV} {d : α} {L : List α} {i : Nat} (h : i < L.length) : listG f d L i = f L[i] := by
  unfold listG; rw [List.getD_eq_getElem?_getD, List.getElem?_eq_getElem h]; rfl
theorem callOK_rows {α : Type} {k : FuncId} {xs : List SV} {e st : Nat} {f : α → List SV} {d0 : α} {L : List α} (hf : ∀ x, (f x).length = st) (h : Sat P k xs [] (rowsEnd e st f L)) : CallOK P k xs [] (.ro L.length st (listG f d0 L)) [] [] := by
  obtain ⟨v, σ', d, hv, hc⟩ := h (fun v σ' d => (L = [] ∧ v = .nils ∧ σ' = [] ∧ d = []) ∨ ∃ g, (∀ j (h : j < L.length), g j = f L[j]) ∧ v = .own 0 0 st L.length ∧ σ' = [some (.row e st L.length g)] ∧ d = [])
    ⟨fun hL => .inl ⟨hL, rfl, rfl, rfl⟩, fun g _ hg => .inr ⟨g, hg, rfl, rfl, rfl⟩⟩
  rcases hv with ⟨rfl, rfl, rfl, rfl⟩ | ⟨g, hg, rfl, rfl, rfl⟩
  · exact callOK_nils hc
  · exact callOK_frz (fun i hi => ⟨by rw [hg i hi, listG_at hi], by rw [listG_at hi]; exact hf _⟩) hc
end Go.Se

/- Rows that a call makes, told by a list, whichever way they are told. -/
namespace Go.Se
variable {P : Program}
theorem callOK_lst {k : FuncId} {xs : List SV} {σ : List (Option SB)} {v : SV} {e : TypeId} {cs : List SV} {st n : Nat} {d : List Nat} (hf : ids.idsL cs = []) (hl : cs.length = n * st)
    (h : CallOK P k xs σ v [some (.lst e cs)] d) : CallOK P k xs σ v [some (.row e st n (fun i => cut cs (i * st) st))] d := by
  intro ρ T w vals h1 h2 h3 h4
  refine (h ρ T w vals h1 h2 h3 h4).mono fun x w' ⟨ρ', T', hd⟩ => ⟨ρ', T', {
    names := hd.names
    only := hd.only
    len := hd.len
    val := hd.val
    store := fun p sb hp => by
      match p, hp with
      | 0, hp =>
        cases hp
        obtain ⟨b, e1, e2, e3⟩ := hd.store 0 _ rfl
        exact ⟨b, e1, e2, relB_row hf hl e3⟩
      | p + 1, hp => simp at hp
    fresh := fun p b hp hb => by
      rcases hd.fresh p b hp hb with h | ⟨q, h5, h6, h7⟩
      · exact .inl h
      · exfalso; cases q <;> simp at h6
    inj := hd.inj
    dirty := hd.dirty
    grow := hd.grow
    tback := hd.tback
    below := hd.below
    tkeep := fun b hb hT => by
      rcases hd.tkeep b hb hT with h | ⟨q, h5, h6, h7⟩
      · exact .inl h
      · exfalso; cases q <;> simp at h6 }⟩
/-- What a slice and its block say of a list: nil, a row, or one element told alone. -/
def tellsE {α : Type} (e st : Nat) (f : α → List SV) (L : List α) (v : SV) (σ' : List (Option SB)) : Prop :=
  (L = [] ∧ v = .nils ∧ σ' = []) ∨ (∃ g, v = .own 0 0 st L.length ∧ σ' = [some (.row e st L.length g)] ∧ ∀ j (h : j < L.length), g j = f L[j]) ∨ (∃ x, L = [x] ∧ v = .own 0 0 st 1 ∧ σ' = [some (.lst e (f x))])
def rowsEndE {α : Type} (e st : Nat) (f : α → List SV) (L : List α) (K : KC) : Prop := ∀ v σ', tellsE e st f L v σ' → K v σ' []
theorem rowsEndE_some {α : Type} {e st : Nat} {f : α → List SV} {L : List α} {K : KC} (d : α) (h : rowsEndE e st f L K) : ∃ v σ' dd, K v σ' dd := by
  cases L with
  | nil => exact ⟨_, _, _, h _ _ (.inl ⟨rfl, rfl, rfl⟩)⟩
  | cons a L => exact ⟨_, _, _, h _ _ (.inr (.inl ⟨listG f d (a :: L), rfl, rfl, fun j hj => listG_at hj⟩))⟩
theorem callOK_rowsE {α : Type} {k : FuncId} {xs : List SV} {e st : Nat} {f : α → List SV} {d0 : α} {L : List α} (hf : ∀ x, (f x).length = st) (hi : ∀ x, ids.idsL (f x) = []) (h : Sat P k xs [] (rowsEndE e st f L)) : CallOK P k xs [] (.ro L.length st (listG f d0 L)) [] [] := by
  obtain ⟨v, σ', d, ⟨hv, rfl⟩, hc⟩ := h (fun v σ' d => tellsE e st f L v σ' ∧ d = []) fun v σ' hv => ⟨hv, rfl⟩
  rcases hv with ⟨rfl, rfl, rfl⟩ | ⟨g, rfl, rfl, hg⟩ | ⟨x, rfl, rfl, rfl⟩
  · exact callOK_nils hc
  · exact callOK_frz (fun i hi => ⟨by rw [hg i hi, listG_at hi], by rw [listG_at hi]; exact hf _⟩) hc
  · have := callOK_lst (n := 1) (hi x) (by rw [hf, Nat.one_mul]) hc
    refine callOK_frz (fun i hi => ?_) this
    obtain rfl : i = 0 := Nat.lt_one_iff.1 hi
    refine ⟨?_, by rw [listG_at (by simp)]; exact hf _⟩
    rw [listG_at (by simp)]
    exact cut_first (hf x)
end Go.Se

/- A block whose first cell holds a row that nobody turns from here on. -/
namespace Go.Se
variable {P : Program}
theorem callOK_frzCell {k : FuncId} {xs : List SV} {e e2 : TypeId} {st n : Nat} {g g' : Nat → List SV} {cs : List SV} (hcs : ids.idsL cs = []) (hg : ∀ i, i < n → g i = g' i)
    (h : CallOK P k xs [] (.ptr 0 0) [some (.cells e (.own 1 0 st n :: cs)), some (.row e2 st n g)] []) : CallOK P k xs [] (.ptr 0 0) [some (.cells e (.ro n st g' :: cs))] [] := by
  intro ρ T w vals h1 h2 h3 h4
  refine (h ρ T w vals h1 h2 h3 h4).mono fun x w' ⟨ρ', T', hd⟩ => ?_
  obtain ⟨b0, r1, rfl⟩ := hd.val
  obtain ⟨b0', r2, r3, vs0, r4, v1, rest, r5, r6, r7⟩ := hd.store 0 _ rfl
  rw [r1] at r2; cases r2
  obtain ⟨b1, c, q1, rfl, q2, q3, _⟩ := r6
  obtain ⟨b1', q4, q5, vs1, q6, q7, q8⟩ := hd.store 1 _ rfl
  rw [q1] at q4; cases q4
  have hne : b0 ≠ b1 := fun e => by
    subst e
    have := hd.inj 0 1 b0 (Nat.le_refl _) (Nat.zero_le _) r1 q1
    cases this
  have hρ : ∀ p, ρ p = none := fun p => by
    cases hp : ρ p with
    | none => rfl
    | some b => exact absurd (h4 p b hp).1 (Nat.not_lt_zero _)
  have hnew : ∀ p b, ρ' p = some b → w.heap.size ≤ b := fun p b hp => by
    rcases hd.fresh p b (Nat.zero_le _) hp with h | ⟨q, hq, _⟩
    · exact h
    · cases hq
  refine ⟨fun p => if p = 0 then some b0 else none, fun c => T' c ∧ c ≠ b1, {
    names := fun p b hp => by rw [hρ] at hp; cases hp
    only := fun p b hp => by
      by_cases h0 : p = 0
      · subst h0; exact Nat.zero_lt_one
      · simp only [if_neg h0] at hp; cases hp
    len := Nat.zero_le _
    val := ⟨b0, rfl, rfl⟩
    store := fun p sb hp => ?_
    fresh := fun p b _ hp => by
      by_cases h0 : p = 0
      · subst h0
        simp only [if_true, Option.some.injEq] at hp
        subst hp
        exact .inl (hnew 0 _ r1)
      · simp only [if_neg h0] at hp; cases hp
    inj := fun p q b _ _ hp hq => by
      by_cases h0 : p = 0 <;> by_cases h1 : q = 0
      · rw [h0, h1]
      · simp only [if_neg h1] at hq; cases hq
      · simp only [if_neg h0] at hp; cases hp
      · simp only [if_neg h0] at hp; cases hp
    dirty := fun p hp => by cases hp
    grow := hd.grow
    tback := fun c hc ht => hd.tback c hc ht.1
    below := fun p b hp => by
      by_cases h0 : p = 0
      · subst h0
        simp only [if_true, Option.some.injEq] at hp
        subst hp
        exact hd.below 0 _ r1
      · simp only [if_neg h0] at hp; cases hp
    tkeep := fun c hc ht => by
      rcases hd.tkeep c hc ht with h | ⟨q, hq, _⟩
      · have := hnew 1 b1 q1
        exact .inl ⟨h, by omega⟩
      · cases hq }⟩
  match p, hp with
  | p + 1, hp => simp at hp
  | 0, hp =>
    cases hp
    refine ⟨b0, rfl, ⟨r3, hne⟩, vs0, r4, _, rest, r5, ?_, ?_⟩
    · refine ⟨some ⟨b1, 0 * st, none⟩, c, rfl, ⟨q2, by omega, fun he => by cases he⟩, fun _ => ⟨b1, 0, by rw [Nat.zero_mul], (Array.getElem?_eq_some_iff.1 q6).1, fun ht => ht.2 rfl, fun i hi => ?_⟩⟩
      have hr := relL_mono (T' := fun c => T' c ∧ c ≠ b1) (fun _ _ h => h) (fun _ _ h => h.1) (Grow.refl T' w') _ _ (q8 i hi)
      rw [Nat.zero_add, ← hg i hi]
      refine relAt_cells hr fun j u hj => ?_
      rw [cell_of q6]
      rw [List.getElem?_take] at hj
      split at hj
      · rw [List.getElem?_drop] at hj
        simpa using hj
      · cases hj
    · exact relL_mono (fun _ _ h => h) (fun _ _ h => h.1) (Grow.refl T' w') _ _ (relL_flat _ _ hcs r7)
theorem callOK_nilCell {k : FuncId} {xs : List SV} {e : TypeId} {st : Nat} {g : Nat → List SV} {cs : List SV}
    (h : CallOK P k xs [] (.ptr 0 0) [some (.cells e (.nils :: cs))] []) : CallOK P k xs [] (.ptr 0 0) [some (.cells e (.ro 0 st g :: cs))] [] := by
  intro ρ T w vals h1 h2 h3 h4
  refine (h ρ T w vals h1 h2 h3 h4).mono fun x w' ⟨ρ', T', hd⟩ => ⟨ρ', T', {
    names := hd.names
    only := hd.only
    len := hd.len
    val := hd.val
    store := fun p sb hp => ?_
    fresh := fun p b hp hb => by
      rcases hd.fresh p b hp hb with h | ⟨q, hq, _⟩
      · exact .inl h
      · cases hq
    inj := hd.inj
    dirty := hd.dirty
    grow := hd.grow
    tback := hd.tback
    below := hd.below
    tkeep := fun c hc ht => by
      rcases hd.tkeep c hc ht with h | ⟨q, hq, _⟩
      · exact .inl h
      · cases hq }⟩
  match p, hp with
  | p + 1, hp => simp at hp
  | 0, hp =>
    cases hp
    obtain ⟨b0, r2, r3, vs0, r4, v1, rest, r5, r6, r7⟩ := hd.store 0 _ rfl
    exact ⟨b0, r2, r3, vs0, r4, v1, rest, r5, nils_ro r6, r7⟩
end Go.Se

