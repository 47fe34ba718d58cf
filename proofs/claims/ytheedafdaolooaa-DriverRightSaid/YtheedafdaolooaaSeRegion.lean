/- Part 12: a region's operations, in the text's order and in any other. -/
import Derived.Test.YtheedafdaolooaaSeStep
namespace Go.Se
variable {P : Program}

/-- An operation that has been run, or passed over. -/
structure Step where
  o : Oper
  st : St
  v : SV
  u : Store
  n : Nat
  rd : List Nat
  wr : List Nat
  g : Option Nat
  ex : Bool

def Step.post (s : Step) : St := setDst s.st s.o.dst s.v s.u s.n s.wr
def Step.looks (s : Step) : List Nat := s.g.toList ++ (if s.ex then looksOf s.o else [])
def Step.writes (s : Step) : List Nat := s.wr ++ upFrom s.st.nxt (s.n - s.st.nxt)
def Step.toRec (s : Step) (i : Nat) : Rec := ⟨i, s.o.dst, s.looks, s.rd, s.writes⟩

structure StepOK (P : Program) (all : List Oper) (s : Step) : Prop where
  nxt : s.st.nxt ≤ s.n
  alive : ∀ id, id ∈ s.rd ∨ id ∈ s.wr → ∃ sb, look s.st.store id = some sb
  func : Once s.st s.u
  keys : ∀ id o, (id, o) ∈ s.u → id ∈ s.wr ∨ (s.st.nxt ≤ id ∧ id < s.n)
  run : (s.ex = true ∧ OpOK P s.st s.o s.v s.u s.n s.rd s.wr ∧
      ((s.o.guard = none ∧ s.g = none) ∨ ∃ j want t, s.o.guard = some (j, want) ∧ (all[j]?).bind (·.dst) = some t ∧ s.g = some t ∧ get s.st.tmps t = .bool want)) ∨
    (s.ex = false ∧ s.v = .tup [] ∧ s.u = [] ∧ s.n = s.st.nxt ∧ s.rd = [] ∧ s.wr = [] ∧
      ∃ j want t, s.o.guard = some (j, want) ∧ (all[j]?).bind (·.dst) = some t ∧ s.g = some t ∧ (get s.st.tmps t = .bool (!want) ∨ get s.st.tmps t = .tup []))

/-- The same state, told in another way. -/
structure Same (a b : St) : Prop where
  tmps : ∀ t, get a.tmps t = get b.tmps t
  store : a.store = b.store
  nxt : a.nxt = b.nxt
  dirty : a.dirty = b.dirty
  nt : a.nt = b.nt

theorem Same.refl (a : St) : Same a a := ⟨fun _ => rfl, rfl, rfl, rfl, rfl⟩

theorem get_setKey {l : Tmps} {t : Nat} {v : SV} (h : get l t = v) (t' : Nat) : get (setKey l t v) t' = get l t' := by
  induction l with
  | nil => rfl
  | cons p l ih =>
    obtain ⟨u, x⟩ := p
    simp only [get] at h
    simp only [setKey]
    cases hb : Nat.beq u t with
    | true =>
      rw [hb] at h
      simp only [cond_true] at h
      subst h
      rfl
    | false =>
      rw [hb] at h
      simp only [cond_false, get]
      rw [ih h]

theorem same_setKey {st : St} {t : Nat} {b : Bool} (h : get st.tmps t = .bool b) : Same st { st with tmps := setKey st.tmps t (.bool b) } :=
  ⟨fun t' => (get_setKey h t').symm, rfl, rfl, rfl, rfl⟩

inductive Chain (P : Program) (all : List Oper) : St → List Step → St → Prop where
  | nil (st : St) : Chain P all st [] st
  | cons {st st' : St} {s : Step} {l : List Step} : Same st s.st → StepOK P all s → Chain P all s.post l st' → Chain P all st (s :: l) st'

def recs : Nat → List Step → List Rec
  | _, [] => []
  | i, s :: l => s.toRec i :: recs (i + 1) l

theorem Br.elim {c : Bool} {A B : Prop} (h : Br c A B) : (c = true ∧ A) ∨ (c = false ∧ B) := by
  cases c
  · exact .inr ⟨rfl, h⟩
  · exact .inl ⟨rfl, h⟩

theorem evalOps_chain {env : Env} (he : EnvOK P env) {all : List Oper} {K : St → List Rec → Prop} : ∀ (r : List Oper) (i : Nat) (st : St) (tr : List Rec),
    evalOps env all r i st tr K → ∃ l st', Chain P all st l st' ∧ l.map (·.o) = r ∧ K st' ((recs i l).reverse ++ tr)
  | [], i, st, tr, h => ⟨[], st, .nil st, rfl, h⟩
  | o :: r, i, st, tr, h => by
    -- run, or pass over
    have run : ∀ (st2 : St) (g : Option Nat), Same st st2 →
        ((o.guard = none ∧ g = none) ∨ ∃ j want t, o.guard = some (j, want) ∧ (all[j]?).bind (·.dst) = some t ∧ g = some t ∧ get st2.tmps t = .bool want) →
        (evalOp env st2 o.op fun v u n rd wr => evalOps env all r (i + 1) (setDst st2 o.dst v u n wr) (⟨i, o.dst, g.toList ++ looksOf o, rd, wr ++ upFrom st2.nxt (n - st2.nxt)⟩ :: tr) K) →
        ∃ l st', Chain P all st l st' ∧ l.map (·.o) = o :: r ∧ K st' ((recs i l).reverse ++ tr) := by
      intro st2 g hs hw h
      obtain ⟨v, u, n, rd, wr, hK, hn, hal, hfu, hky, hok⟩ := evalOp_ok he (o := o) h
      obtain ⟨l, st', hc, hl, hK'⟩ := evalOps_chain he r (i + 1) _ _ hK
      let s : Step := ⟨o, st2, v, u, n, rd, wr, g, true⟩
      refine ⟨s :: l, st', .cons hs ⟨hn, hal, hfu, hky, .inl ⟨rfl, hok, hw⟩⟩ hc, by simp [hl, s], ?_⟩
      simp only [recs, List.reverse_cons, List.append_assoc, List.singleton_append]
      exact hK'
    have skip : ∀ (st2 : St) (t : Nat), Same st st2 →
        (∃ j want, o.guard = some (j, want) ∧ (all[j]?).bind (·.dst) = some t ∧ (get st2.tmps t = .bool (!want) ∨ get st2.tmps t = .tup [])) →
        evalOps env all r (i + 1) (setDst st2 o.dst (.tup []) [] st2.nxt []) (⟨i, o.dst, [t], [], []⟩ :: tr) K →
        ∃ l st', Chain P all st l st' ∧ l.map (·.o) = o :: r ∧ K st' ((recs i l).reverse ++ tr) := by
      rintro st2 t hs ⟨j, want, h1, h2, h3⟩ h
      obtain ⟨l, st', hc, hl, hK'⟩ := evalOps_chain he r (i + 1) _ _ h
      let s : Step := ⟨o, st2, .tup [], [], st2.nxt, [], [], some t, false⟩
      refine ⟨s :: l, st', .cons hs ⟨Nat.le_refl _, by simp [s], Once.nil, by simp [s], .inr ⟨rfl, rfl, rfl, rfl, rfl, rfl, j, want, t, h1, h2, rfl, h3⟩⟩ hc, by simp [hl, s], ?_⟩
      have hw : s.writes = [] := by simp [Step.writes, s, upFrom]
      simp only [recs, List.reverse_cons, List.append_assoc, List.singleton_append, Step.toRec, hw]
      exact hK'
    simp only [evalOps] at h
    split at h
    · rename_i hg
      exact run st none (Same.refl _) (.inl ⟨hg, rfl⟩) h
    · rename_i j want hg
      split at h
      · exact h.elim
      · rename_i t ht
        split at h
        · rename_i b hb
          rcases Br.elim h with ⟨rfl, h⟩ | ⟨rfl, h⟩
          · cases want
            · exact skip _ t (same_setKey hb) ⟨j, false, hg, ht, .inl (by rw [get_setKey hb]; exact hb)⟩ h
            · exact run _ (some t) (same_setKey hb) (.inr ⟨j, true, t, hg, ht, rfl, by rw [get_setKey hb]; exact hb⟩) h
          · cases want
            · exact run _ (some t) (same_setKey hb) (.inr ⟨j, false, t, hg, ht, rfl, by rw [get_setKey hb]; exact hb⟩) h
            · exact skip _ t (same_setKey hb) ⟨j, true, hg, ht, .inl (by rw [get_setKey hb]; exact hb)⟩ h
        · rename_i hb
          exact skip st t (Same.refl _) ⟨j, want, hg, ht, .inr hb⟩ h
        · exact h.elim

theorem yielded_bool {ops : Array Oper} {tmps : Array Value} {j t : Nat} {b : Bool} (h : (ops[j]?).bind (·.dst) = some t) (hv : tmps.getD t undef = .bool b) :
    yielded ops tmps j = some b := by
  unfold yielded
  rw [h, Option.bind_some]
  rw [Array.getD_eq_getD_getElem?] at hv
  cases ht : tmps[t]? with
  | none => rw [ht] at hv; simp [undef] at hv
  | some x => rw [ht] at hv; simp only [Option.getD_some] at hv; rw [hv]

theorem yielded_undef {ops : Array Oper} {tmps : Array Value} {j t : Nat} (h : (ops[j]?).bind (·.dst) = some t) (hv : tmps.getD t undef = .tuple #[]) :
    yielded ops tmps j = none := by
  unfold yielded
  rw [h, Option.bind_some]
  rw [Array.getD_eq_getD_getElem?] at hv
  cases ht : tmps[t]? with
  | none => rfl
  | some x => rw [ht] at hv; simp only [Option.getD_some] at hv; rw [hv]

/-- One operation, wherever it stands. -/
theorem op_step {ops : Array Oper} {s : Step} (hs : StepOK P ops.toList s) {i : Nat} (hi : ops[i]? = some s.o)
    {B : Base} {tm : Nat → SV} {sf : Nat → Option SB} {A A' : Nat → Prop} {D D' : List Nat} {nt : Nat} {a : Act} {w : World} {ρ : Names} {T : Nat → Prop}
    (h : Holds B tm sf A D nt a w ρ T) (htm : ∀ t, t ∈ s.looks → tm t = get s.st.tmps t) (hsf : ∀ id, id ∈ s.rd ∨ id ∈ s.wr → sf id = look s.st.store id)
    (hnew : ∀ id, s.st.nxt ≤ id → id < s.n → ¬ A id) (hB : B.n ≤ s.st.nxt) (hdst : ∀ d, s.o.dst = some d → d < nt) (hlt : ∀ id sb, look s.st.store id = some sb → id < s.st.nxt)
    (hD : ∀ p, p ∈ D → p ∈ D') (hD' : ∀ p, p ∈ s.wr → p ∈ D') (hA : ∀ id, A' id ↔ A id ∨ (s.st.nxt ≤ id ∧ id < s.n))
    {K : Act → World → Prop} {Q : Exit → Act → World → Prop} (hK : ∀ a' w' ρ' T', Holds B (upd tm s.o.dst s.v) (updS sf s.u) A' D' nt a' w' ρ' T' → K a' w') :
    wpOp P ops Q i K a w := by
  unfold wpOp
  rw [hi]
  simp only
  have hsome : ∀ id, id ∈ s.rd ∨ id ∈ s.wr → (sf id).isSome := by
    intro id hid
    obtain ⟨sb, hsb⟩ := hs.alive id hid
    rw [hsf id hid, hsb]; rfl
  have hgt : ∀ (j t : Nat), (ops.toList[j]?).bind (fun (x : Oper) => x.dst) = some t → (ops[j]?).bind (fun (x : Oper) => x.dst) = some t := by
    intro j t h; rw [Array.getElem?_toList] at h; exact h
  rcases hs.run with ⟨hex, hok, hw⟩ | ⟨hex, hv, hu, hn, hrd, hwr, j, want, t, hg, ht, hgt', hval⟩
  · have hwant : Region.wanted s.o (yielded ops a.tmps) = true := by
      rcases hw with ⟨hg, _⟩ | ⟨j, want, t, hg, ht, hgt', hval⟩
      · simp [Region.wanted, hg]
      · have h1 := h.tmps t
        rw [htm t (by simp [Step.looks, hgt']), hval] at h1
        have h2 : a.tmps.getD t undef = .bool want := h1
        simp [Region.wanted, hg, yielded_bool (hgt j t ht) h2]
    rw [hwant]
    simp only [if_true]
    left
    refine hok ρ T a w K Q ?_ ?_ ?_ (fun id b hid => (h.names id b hid).2) ?_ ?_
    · intro x hx
      refine eval_rel fun t hxt => ?_
      subst hxt
      have := h.tmps t
      rw [htm t] at this
      · exact this
      · simp only [Step.looks, hex, if_true, List.mem_append]
        right
        simp only [looksOf, List.mem_filterMap]
        exact ⟨.tmp t, by simpa using hx, rfl⟩
    · intro id hid
      obtain ⟨sb, hsb⟩ := hs.alive id hid
      obtain ⟨_, b, h1, h2, h3⟩ := h.store id sb (by rw [hsf id hid]; exact hsb)
      exact ⟨sb, b, hsb, h1, h2, h3⟩
    · intro p q b hp hq h1 h2
      exact h.inj p q b (hsome p hp) (hsome q hq) h1 h2
    · intro id h1 h2
      cases hρ : ρ id with
      | none => rfl
      | some b => exact absurd (h.names id b hρ).1 (hnew id h1 h2)
    · intro x w' ρ' T' hd
      exact hK _ _ ρ' T' (h.done hd hdst hB hnew (fun id hid => hsome id (.inr hid)) (hs.func hlt) hD hD' hA)
  · have hwant : Region.wanted s.o (yielded ops a.tmps) = false := by
      have h1 := h.tmps t
      rw [htm t (by simp [Step.looks, hgt'])] at h1
      rcases hval with hval | hval
      · rw [hval] at h1
        have h2 : a.tmps.getD t undef = .bool (!want) := h1
        simp only [Region.wanted, hg, yielded_bool (hgt j t ht) h2]
        cases want <;> rfl
      · rw [hval] at h1
        obtain ⟨vs, h2, h3⟩ := h1
        have h4 : vs.toList = [] := h3
        have h5 : vs = #[] := by apply Array.ext'; exact h4
        subst h5
        simp only [Region.wanted, hg, yielded_undef (hgt j t ht) h2]
        rfl
    rw [hwant]
    simp only [Bool.false_eq_true, if_false]
    refine hK _ _ ρ T ?_
    rw [hv, hu]
    exact h.done (Done.pure (n := s.st.nxt) (v := .tup []) (x := undef) ⟨#[], rfl, rfl⟩) hdst hB (fun id h1 h2 => by omega) (by simp) (by simp) hD (by simp) (by rw [hn] at hA; exact hA)

/-- What one step writes: a temporary, and blocks. -/
def pT (s : Step) (t : Nat) : Option SV := match s.o.dst with
  | some d => if t = d then some s.v else none
  | none => none

def look1 (u : Store) (id : Nat) : Option (Option SB) :=
  match u with
  | [] => none
  | (i, o) :: u => if id = i then some o else look1 u id

def pS (s : Step) (id : Nat) : Option (Option SB) := look1 s.u id

section
variable {β : Type}

def updG (f : Nat → β) (p : Nat → Option β) : Nat → β := fun t => match p t with
  | some b => b
  | none => f t

def foldG (p : Step → Nat → Option β) (S : Nat → Bool) : Nat → List Step → (Nat → β) → Nat → β
  | _, [], f => f
  | k, s :: l, f => foldG p S (k + 1) l (if S k then updG f (p s) else f)

theorem foldG_append (p : Step → Nat → Option β) (S : Nat → Bool) : ∀ (l1 l2 : List Step) (o : Nat) (f : Nat → β),
    foldG p S o (l1 ++ l2) f = foldG p S (o + l1.length) l2 (foldG p S o l1 f)
  | [], l2, o, f => rfl
  | s :: l1, l2, o, f => by
    simp only [List.cons_append, foldG, List.length_cons]
    rw [foldG_append p S l1 l2 (o + 1), show o + 1 + l1.length = o + (l1.length + 1) by omega]

theorem foldG_congr {p : Step → Nat → Option β} {S S' : Nat → Bool} {t : Nat} : ∀ (l : List Step) (o : Nat) (f f' : Nat → β),
    (∀ k s, l[k]? = some s → (p s t).isSome → S (o + k) = S' (o + k)) → f t = f' t → foldG p S o l f t = foldG p S' o l f' t
  | [], o, f, f', _, h => h
  | s :: l, o, f, f', hk, h => by
    simp only [foldG]
    refine foldG_congr l (o + 1) _ _ (fun k s' hs hp => ?_) ?_
    · have := hk (k + 1) s' (by simpa using hs) hp
      rw [show o + 1 + k = o + (k + 1) by omega]; exact this
    · cases hp : p s t with
      | none =>
        have h1 : (if S o then updG f (p s) else f) t = f t := by split <;> simp [updG, hp]
        have h2 : (if S' o then updG f' (p s) else f') t = f' t := by split <;> simp [updG, hp]
        rw [h1, h2, h]
      | some b =>
        have := hk 0 s (by simp) (by rw [hp]; rfl)
        rw [Nat.add_zero] at this
        rw [this]
        split
        · simp [updG, hp]
        · exact h

/-- One more step, behind all that write the same. -/
theorem foldG_ins {p : Step → Nat → Option β} {S S' : Nat → Bool} {l : List Step} {i : Nat} {s : Step} (hi : l[i]? = some s) (hS : ∀ k, k ≠ i → S' k = S k) (h1 : S' i = true) (h0 : S i = false)
    {f : Nat → β} {t : Nat} (hlast : (p s t).isSome → ∀ k s', l[k]? = some s' → i < k → (p s' t).isSome → S k = false) :
    foldG p S' 0 l f t = updG (foldG p S 0 l f) (p s) t := by
  obtain ⟨hlt, hget⟩ := List.getElem?_eq_some_iff.1 hi
  have hsplit : l = l.take i ++ s :: l.drop (i + 1) := by
    rw [← hget, ← List.drop_eq_getElem_cons hlt, List.take_append_drop]
  have hlen : (l.take i).length = i := by simp; omega
  have hg : foldG p S' 0 (l.take i) f = foldG p S 0 (l.take i) f := by
    funext t
    refine foldG_congr _ _ _ _ (fun k s' hs _ => ?_) rfl
    rw [Nat.zero_add]
    refine hS k ?_
    have := (List.getElem?_eq_some_iff.1 hs).1
    omega
  have e1 : foldG p S' 0 l f = foldG p S' (i + 1) (l.drop (i + 1)) (updG (foldG p S 0 (l.take i) f) (p s)) := by
    conv => lhs; rw [hsplit]
    rw [foldG_append, hlen, Nat.zero_add, foldG, h1, hg]; rfl
  have e2 : foldG p S 0 l f = foldG p S (i + 1) (l.drop (i + 1)) (foldG p S 0 (l.take i) f) := by
    conv => lhs; rw [hsplit]
    rw [foldG_append, hlen, Nat.zero_add, foldG, h0]; rfl
  rw [e1, updG, e2]
  cases hp : p s t with
  | none =>
    refine foldG_congr _ _ _ _ (fun k s' _ _ => hS _ (by omega)) ?_
    simp [updG, hp]
  | some b =>
    have : foldG p S' (i + 1) (l.drop (i + 1)) (updG (foldG p S 0 (l.take i) f) (p s)) t = foldG p (fun _ => false) (i + 1) (l.drop (i + 1)) (updG (foldG p S 0 (l.take i) f) (p s)) t := by
      refine foldG_congr _ _ _ _ (fun k s' hs hps => ?_) rfl
      rw [hS _ (by omega)]
      refine hlast (by rw [hp]; rfl) (i + 1 + k) s' ?_ (by omega) hps
      rw [List.getElem?_drop] at hs; exact hs
    rw [this]
    have hno : ∀ (l : List Step) (o : Nat) (f : Nat → β), foldG p (fun _ => false) o l f = f := by
      intro l
      induction l with
      | nil => intro o f; rfl
      | cons s l ih => intro o f; simp [foldG, ih]
    rw [hno]
    simp [updG, hp]
end

theorem upd_pT (f : Nat → SV) (s : Step) : upd f s.o.dst s.v = updG f (pT s) := by
  funext t
  unfold upd updG pT
  cases s.o.dst with
  | none => rfl
  | some d => by_cases h : t = d <;> simp [h]

theorem updS_pS (f : Nat → Option SB) (s : Step) : updS f s.u = updG f (pS s) := by
  funext id
  unfold updG pS
  generalize s.u = u
  induction u with
  | nil => rfl
  | cons p u ih =>
    obtain ⟨i, o⟩ := p
    by_cases h : id = i
    · simp [updS, look1, h]
    · simp only [updS, look1, h, if_false]; exact ih

theorem get_post (s : Step) : get s.post.tmps = upd (get s.st.tmps) s.o.dst s.v := by
  funext t
  unfold Step.post setDst upd
  cases s.o.dst with
  | none => rfl
  | some d =>
    simp only [get]
    by_cases h : t = d
    · subst h; simp
    · have : Nat.beq d t = false := by rw [Bool.eq_false_iff]; intro e; exact h (Nat.eq_of_beq_eq_true e).symm
      simp [this, h]

theorem look_post (s : Step) : look s.post.store = updS (look s.st.store) s.u := by
  funext id
  exact look_updS _ _ _

theorem mem_addTo : ∀ (r l : List Nat) (x : Nat), x ∈ addTo l r ↔ x ∈ l ∨ x ∈ r
  | [], l, x => by simp [addTo]
  | y :: r, l, x => by
    simp only [addTo]
    cases h : l.any (Nat.beq y) with
    | true =>
      have := any_beq.1 h
      simp only [cond_true]
      rw [mem_addTo r l x, List.mem_cons]
      constructor
      · rintro (h | h)
        · exact .inl h
        · exact .inr (.inr h)
      · rintro (h | rfl | h)
        · exact .inl h
        · exact .inl this
        · exact .inr h
    | false =>
      simp only [cond_false]
      rw [mem_addTo r (y :: l) x, List.mem_cons, List.mem_cons]
      constructor
      · rintro ((rfl | h) | h)
        · exact .inr (.inl rfl)
        · exact .inl h
        · exact .inr (.inr h)
      · rintro (h | rfl | h)
        · exact .inl (.inr h)
        · exact .inl (.inl rfl)
        · exact .inr h

/-- The state of a frame as it is told. -/
def Now (B : Base) (st : St) (a : Act) (w : World) : Prop :=
  B.n ≤ st.nxt ∧ ∃ ρ T, Holds B (get st.tmps) (look st.store) (fun id => id < st.nxt) st.dirty st.nt a w ρ T

/-- A region that is run as it is written. -/
theorem chain_text {ops : Array Oper} {Q : Exit → Act → World → Prop} {B : Base} : ∀ {l : List Step} {st st' : St}, Chain P ops.toList st l st' → ∀ (k : Nat) (a : Act) (w : World),
    (∀ j, (l.map (·.o))[j]? = ops[k + j]?) → Now B st a w → (∀ s ∈ l, ∀ d, s.o.dst = some d → d < st.nt) →
    (∀ a' w', Now B st' a' w' → Q .normal a' w') → wpOps P ops Q (List.range' k l.length) a w := by
  intro l st st' hc
  induction hc with
  | nil st => intro k a w _ h _ hQ; exact hQ a w h
  | @cons st st' s l hsame hok hc ih =>
    intro k a w hops ⟨hB, ρ, T, h⟩ hd hQ
    simp only [List.length_cons, List.range'_succ]
    rw [wpOps_cons]
    have hi : ops[k]? = some s.o := by have := hops 0; simp at this; exact this.symm
    have ht : get st.tmps = get s.st.tmps := funext hsame.tmps
    have h0 := h
    rw [ht, hsame.store, hsame.nxt, hsame.dirty, hsame.nt] at h0
    rw [hsame.nxt] at hB
    refine op_step hok hi h0 (fun _ _ => rfl) (fun _ _ => rfl) (fun id h1 _ h2 => by omega) hB (fun d hdst => by have := hd s (by simp) d hdst; rw [hsame.nt] at this; exact this)
      (fun id sb hl => (h0.store id sb hl).1) (D' := s.post.dirty) (A' := fun id => id < s.post.nxt) ?_ ?_ ?_ ?_
    · intro p hp; exact (mem_addTo _ _ _).2 (.inl hp)
    · intro p hp; exact (mem_addTo _ _ _).2 (.inr hp)
    · intro id
      show id < s.n ↔ id < s.st.nxt ∨ (s.st.nxt ≤ id ∧ id < s.n)
      have := hok.nxt
      omega
    · intro a' w' ρ' T' h1
      refine ih (k + 1) a' w' (fun j => ?_) ⟨Nat.le_trans hB hok.nxt, ρ', T', ?_⟩ (fun s' hs' d hdst => ?_) hQ
      · have := hops (j + 1)
        rw [show k + 1 + j = k + (j + 1) by omega]; simpa using this
      · rw [get_post, look_post]; exact h1
      · have := hd s' (by simp [hs']) d hdst
        rw [hsame.nt] at this; exact this

end Go.Se
