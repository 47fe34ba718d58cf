/- Part 12: a region's operations, in the text's order and in any other. -/
import Derived.Test.YtjlmofhokbnloaaDoorSeApp
namespace Go.Se
variable {P : Program}

/-- An operation that has been run, or passed over. -/
structure Step where
  o : Oper
  st : St
  v : SV
  u : Store
  n : Nat
  rd : List Nat
  wr : List Nat
  g : Option Nat
  ex : Bool

def Step.post (s : Step) : St := setDst s.st s.o.dst s.v s.u s.n s.wr
def Step.looks (s : Step) : List Nat := s.g.toList ++ (if s.ex then looksOf s.o else [])
def Step.writes (s : Step) : List Nat := s.wr ++ upFrom s.st.nxt (s.n - s.st.nxt)
def Step.toRec (s : Step) (i : Nat) : Rec := ⟨i, s.o.dst, s.looks, s.rd, s.writes⟩

structure StepOK (P : Program) (all : List Oper) (s : Step) : Prop where
  nxt : s.st.nxt ≤ s.n
  alive : ∀ id, id ∈ s.rd ∨ id ∈ s.wr → ∃ sb, look s.st.store id = some sb
  func : Once s.st s.u
  keys : ∀ id o, (id, o) ∈ s.u → id ∈ s.wr ∨ (s.st.nxt ≤ id ∧ id < s.n)
  run : (s.ex = true ∧ OpOK P s.st s.o s.v s.u s.n s.rd s.wr ∧
      ((s.o.guard = none ∧ s.g = none) ∨ ∃ j want t, s.o.guard = some (j, want) ∧ (all[j]?).bind (·.dst) = some t ∧ s.g = some t ∧ get s.st.tmps t = .bool want)) ∨
    (s.ex = false ∧ s.v = .tup [] ∧ s.u = [] ∧ s.n = s.st.nxt ∧ s.rd = [] ∧ s.wr = [] ∧
      ∃ j want t, s.o.guard = some (j, want) ∧ (all[j]?).bind (·.dst) = some t ∧ s.g = some t ∧ (get s.st.tmps t = .bool (!want) ∨ get s.st.tmps t = .tup []))

/-- The same state, told in another way. -/
structure Same (a b : St) : Prop where
  tmps : ∀ t, get a.tmps t = get b.tmps t
  store : a.store = b.store
  nxt : a.nxt = b.nxt
  dirty : a.dirty = b.dirty
  nt : a.nt = b.nt

theorem Same.refl (a : St) : Same a a := ⟨fun _ => rfl, rfl, rfl, rfl, rfl⟩

theorem get_setKey {l : Tmps} {t : Nat} {v : SV} (h : get l t = v) (t' : Nat) : get (setKey l t v) t' = get l t' := by
  induction l with
  | nil => rfl
  | cons p l ih =>
    obtain ⟨u, x⟩ := p
    simp only [get] at h
    simp only [setKey]
    cases hb : Nat.beq u t with
    | true =>
      rw [hb] at h
      simp only [cond_true] at h
      subst h
      rfl
    | false =>
      rw [hb] at h
      simp only [cond_false, get]
      rw [ih h]

theorem same_setKey {st : St} {t : Nat} {b : Bool} (h : get st.tmps t = .bool b) : Same st { st with tmps := setKey st.tmps t (.bool b) } :=
  ⟨fun t' => (get_setKey h t').symm, rfl, rfl, rfl, rfl⟩

inductive Chain (P : Program) (all : List Oper) : St → List Step → St → Prop where
  | nil (st : St) : Chain P all st [] st
  | cons {st st' : St} {s : Step} {l : List Step} : Same st s.st → StepOK P all s → Chain P all s.post l st' → Chain P all st (s :: l) st'

def recs : Nat → List Step → List Rec
  | _, [] => []
  | i, s :: l => s.toRec i :: recs (i + 1) l

theorem evalOps_chain {env : Env} (he : EnvOK2 P env) {all : List Oper} {K : St → List Rec → Prop} : ∀ (r : List Oper) (i : Nat) (st : St) (tr : List Rec),
    evalOps env all r i st tr K → ∃ l st', Chain P all st l st' ∧ l.map (·.o) = r ∧ K st' ((recs i l).reverse ++ tr)
  | [], i, st, tr, h => ⟨[], st, .nil st, rfl, h⟩
  | o :: r, i, st, tr, h => by
    -- run, or pass over
    have run : ∀ (st2 : St) (g : Option Nat), Same st st2 →
        ((o.guard = none ∧ g = none) ∨ ∃ j want t, o.guard = some (j, want) ∧ (all[j]?).bind (·.dst) = some t ∧ g = some t ∧ get st2.tmps t = .bool want) →
        (evalOp env st2 o.op fun v u n rd wr => evalOps env all r (i + 1) (setDst st2 o.dst v u n wr) (⟨i, o.dst, g.toList ++ looksOf o, rd, wr ++ upFrom st2.nxt (n - st2.nxt)⟩ :: tr) K) →
        ∃ l st', Chain P all st l st' ∧ l.map (·.o) = o :: r ∧ K st' ((recs i l).reverse ++ tr) := by
      intro st2 g hs hw h
      obtain ⟨v, u, n, rd, wr, hK, hn, hal, hfu, hky, hok⟩ := evalOp_ok he (o := o) h
      obtain ⟨l, st', hc, hl, hK'⟩ := evalOps_chain he r (i + 1) _ _ hK
      let s : Step := ⟨o, st2, v, u, n, rd, wr, g, true⟩
      refine ⟨s :: l, st', .cons hs ⟨hn, hal, hfu, hky, .inl ⟨rfl, hok, hw⟩⟩ hc, by simp [hl, s], ?_⟩
      simp only [recs, List.reverse_cons, List.append_assoc, List.singleton_append]
      exact hK'
    have skip : ∀ (st2 : St) (t : Nat), Same st st2 →
        (∃ j want, o.guard = some (j, want) ∧ (all[j]?).bind (·.dst) = some t ∧ (get st2.tmps t = .bool (!want) ∨ get st2.tmps t = .tup [])) →
        evalOps env all r (i + 1) (setDst st2 o.dst (.tup []) [] st2.nxt []) (⟨i, o.dst, [t], [], []⟩ :: tr) K →
        ∃ l st', Chain P all st l st' ∧ l.map (·.o) = o :: r ∧ K st' ((recs i l).reverse ++ tr) := by
      rintro st2 t hs ⟨j, want, h1, h2, h3⟩ h
      obtain ⟨l, st', hc, hl, hK'⟩ := evalOps_chain he r (i + 1) _ _ h
      let s : Step := ⟨o, st2, .tup [], [], st2.nxt, [], [], some t, false⟩
      refine ⟨s :: l, st', .cons hs ⟨Nat.le_refl _, by simp [s], Once.nil, by simp [s], .inr ⟨rfl, rfl, rfl, rfl, rfl, rfl, j, want, t, h1, h2, rfl, h3⟩⟩ hc, by simp [hl, s], ?_⟩
      have hw : s.writes = [] := by simp [Step.writes, s, upFrom]
      simp only [recs, List.reverse_cons, List.append_assoc, List.singleton_append, Step.toRec, hw]
      exact hK'
    simp only [evalOps] at h
    split at h
    · rename_i hg
      exact run st none (Same.refl _) (.inl ⟨hg, rfl⟩) h
    · rename_i j want hg
      split at h
      · exact h.elim
      · rename_i t ht
        split at h
        · rename_i b hb
          rcases Br.elim h with ⟨rfl, h⟩ | ⟨rfl, h⟩
          · cases want
            · exact skip _ t (same_setKey hb) ⟨j, false, hg, ht, .inl (by rw [get_setKey hb]; exact hb)⟩ h
            · exact run _ (some t) (same_setKey hb) (.inr ⟨j, true, t, hg, ht, rfl, by rw [get_setKey hb]; exact hb⟩) h
          · cases want
            · exact run _ (some t) (same_setKey hb) (.inr ⟨j, false, t, hg, ht, rfl, by rw [get_setKey hb]; exact hb⟩) h
            · exact skip _ t (same_setKey hb) ⟨j, true, hg, ht, .inl (by rw [get_setKey hb]; exact hb)⟩ h
        · rename_i hb
          exact skip st t (Same.refl _) ⟨j, want, hg, ht, .inr hb⟩ h
        · exact h.elim

theorem yielded_bool {ops : Array Oper} {tmps : Array Value} {j t : Nat} {b : Bool} (h : (ops[j]?).bind (·.dst) = some t) (hv : tmps.getD t undef = .bool b) :
    yielded ops tmps j = some b := by
  unfold yielded
  rw [h, Option.bind_some]
  rw [Array.getD_eq_getD_getElem?] at hv
  cases ht : tmps[t]? with
  | none => rw [ht] at hv; simp [undef] at hv
  | some x => rw [ht] at hv; simp only [Option.getD_some] at hv; rw [hv]

theorem yielded_undef {ops : Array Oper} {tmps : Array Value} {j t : Nat} (h : (ops[j]?).bind (·.dst) = some t) (hv : tmps.getD t undef = .tuple #[]) :
    yielded ops tmps j = none := by
  unfold yielded
  rw [h, Option.bind_some]
  rw [Array.getD_eq_getD_getElem?] at hv
  cases ht : tmps[t]? with
  | none => rfl
  | some x => rw [ht] at hv; simp only [Option.getD_some] at hv; rw [hv]

/-- One operation, wherever it stands. -/
theorem op_step {ops : Array Oper} {s : Step} (hs : StepOK P ops.toList s) {i : Nat} (hi : ops[i]? = some s.o)
    {B : Base P} {tm : Nat → SV} {sf : Nat → Option SB} {A A' : Nat → Prop} {D D' : List Nat} {nt : Nat} {a : Act} {w : World} {ρ : Names} {T : Nat → Prop}
    (h : Holds B tm sf A D nt a w ρ T) (htm : ∀ t, t ∈ s.looks → tm t = get s.st.tmps t) (hsf : ∀ id, id ∈ s.rd ∨ id ∈ s.wr → sf id = look s.st.store id)
    (hnew : ∀ id, s.st.nxt ≤ id → id < s.n → ¬ A id) (hB : B.n ≤ s.st.nxt) (hdst : ∀ d, s.o.dst = some d → d < nt) (hlt : ∀ id sb, look s.st.store id = some sb → id < s.st.nxt)
    (hD : ∀ p, p ∈ D → p ∈ D') (hD' : ∀ p, p ∈ s.wr → p ∈ D') (hA : ∀ id, A' id ↔ A id ∨ (s.st.nxt ≤ id ∧ id < s.n))
    {K : Act → World → Prop} {Q : Exit → Act → World → Prop} (hK : ∀ a' w' ρ' T', Holds B (upd tm s.o.dst s.v) (updS sf s.u) A' D' nt a' w' ρ' T' → K a' w') {F : Fence} {n : Nat} (hF : Wd F) :
    wpOpIn F n P ops Q i K a w := by
  unfold wpOpIn
  rw [hi]
  simp only
  have hsome : ∀ id, id ∈ s.rd ∨ id ∈ s.wr → (sf id).isSome := by
    intro id hid
    obtain ⟨sb, hsb⟩ := hs.alive id hid
    rw [hsf id hid, hsb]; rfl
  have hgt : ∀ (j t : Nat), (ops.toList[j]?).bind (fun (x : Oper) => x.dst) = some t → (ops[j]?).bind (fun (x : Oper) => x.dst) = some t := by
    intro j t h; rw [Array.getElem?_toList] at h; exact h
  rcases hs.run with ⟨hex, hok, hw⟩ | ⟨hex, hv, hu, hn, hrd, hwr, j, want, t, hg, ht, hgt', hval⟩
  · have hwant : Region.wanted s.o (yielded ops a.tmps) = true := by
      rcases hw with ⟨hg, _⟩ | ⟨j, want, t, hg, ht, hgt', hval⟩
      · simp [Region.wanted, hg]
      · have h1 := h.tmps t
        rw [htm t (by simp [Step.looks, hgt']), hval] at h1
        have h2 : a.tmps.getD t undef = .bool want := h1
        simp [Region.wanted, hg, yielded_bool (hgt j t ht) h2]
    rw [hwant]
    simp only [if_true]
    refine hok ρ T a w K Q ?_ ?_ ?_ ⟨fun id b hid => (h.names id b hid).2, h.inv⟩ ?_ ?_ F n hF
    · intro x hx
      refine eval_rel fun t hxt => ?_
      subst hxt
      have := h.tmps t
      rw [htm t] at this
      · exact this
      · simp only [Step.looks, hex, if_true, List.mem_append]
        right
        simp only [looksOf, List.mem_filterMap]
        exact ⟨.tmp t, by simpa using hx, rfl⟩
    · intro id hid
      obtain ⟨sb, hsb⟩ := hs.alive id hid
      obtain ⟨_, b, h1, h2, h3⟩ := h.store id sb (by rw [hsf id hid]; exact hsb)
      exact ⟨sb, b, hsb, h1, h2, h3⟩
    · intro p q b hp hq h1 h2
      exact h.inj p q b (hsome p hp) (hsome q hq) h1 h2
    · intro id h1 h2
      cases hρ : ρ id with
      | none => rfl
      | some b => exact absurd (h.names id b hρ).1 (hnew id h1 h2)
    · intro x w' ρ' T' hd
      exact hK _ _ ρ' T' (h.done hd hdst hB hnew (fun id hid => hsome id (.inr hid)) (hs.func hlt) hD hD' hA)
  · have hwant : Region.wanted s.o (yielded ops a.tmps) = false := by
      have h1 := h.tmps t
      rw [htm t (by simp [Step.looks, hgt'])] at h1
      rcases hval with hval | hval
      · rw [hval] at h1
        have h2 : a.tmps.getD t undef = .bool (!want) := h1
        simp only [Region.wanted, hg, yielded_bool (hgt j t ht) h2]
        cases want <;> rfl
      · rw [hval] at h1
        obtain ⟨vs, h2, h3⟩ := h1
        have h4 : vs.toList = [] := h3
        have h5 : vs = #[] := by apply Array.ext'; exact h4
        subst h5
        simp only [Region.wanted, hg, yielded_undef (hgt j t ht) h2]
        rfl
    rw [hwant]
    simp only [Bool.false_eq_true, if_false]
    refine ⟨fun f _ => hF.fn f, hK _ _ ρ T ?_⟩
    rw [hv, hu]
    exact h.done (Done.pure (n := s.st.nxt) (v := .tup []) (x := undef) ⟨#[], rfl, rfl⟩) hdst hB (fun id h1 h2 => by omega) (by simp) (by simp) hD (by simp) (by rw [hn] at hA; exact hA)

/-- What one step writes: a temporary, and blocks. -/
def pT (s : Step) (t : Nat) : Option SV := match s.o.dst with
  | some d => if t = d then some s.v else none
  | none => none

def look1 (u : Store) (id : Nat) : Option (Option SB) :=
  match u with
  | [] => none
  | (i, o) :: u => if id = i then some o else look1 u id

def pS (s : Step) (id : Nat) : Option (Option SB) := look1 s.u id

section
variable {β : Type}

def updG (f : Nat → β) (p : Nat → Option β) : Nat → β := fun t => match p t with
  | some b => b
  | none => f t

def foldG (p : Step → Nat → Option β) (S : Nat → Bool) : Nat → List Step → (Nat → β) → Nat → β
  | _, [], f => f
  | k, s :: l, f => foldG p S (k + 1) l (if S k then updG f (p s) else f)

theorem foldG_append (p : Step → Nat → Option β) (S : Nat → Bool) : ∀ (l1 l2 : List Step) (o : Nat) (f : Nat → β),
    foldG p S o (l1 ++ l2) f = foldG p S (o + l1.length) l2 (foldG p S o l1 f)
  | [], l2, o, f => rfl
  | s :: l1, l2, o, f => by
    simp only [List.cons_append, foldG, List.length_cons]
    rw [foldG_append p S l1 l2 (o + 1), show o + 1 + l1.length = o + (l1.length + 1) by omega]

theorem foldG_congr {p : Step → Nat → Option β} {S S' : Nat → Bool} {t : Nat} : ∀ (l : List Step) (o : Nat) (f f' : Nat → β),
    (∀ k s, l[k]? = some s → (p s t).isSome → S (o + k) = S' (o + k)) → f t = f' t → foldG p S o l f t = foldG p S' o l f' t
  | [], o, f, f', _, h => h
  | s :: l, o, f, f', hk, h => by
    simp only [foldG]
    refine foldG_congr l (o + 1) _ _ (fun k s' hs hp => ?_) ?_
    · have := hk (k + 1) s' (by simpa using hs) hp
      rw [show o + 1 + k = o + (k + 1) by omega]; exact this
    · cases hp : p s t with
      | none =>
        have h1 : (if S o then updG f (p s) else f) t = f t := by split <;> simp [updG, hp]
        have h2 : (if S' o then updG f' (p s) else f') t = f' t := by split <;> simp [updG, hp]
        rw [h1, h2, h]
      | some b =>
        have := hk 0 s (by simp) (by rw [hp]; rfl)
        rw [Nat.add_zero] at this
        rw [this]
        split
        · simp [updG, hp]
        · exact h

/-- One more step, behind all that write the same. -/
theorem foldG_ins {p : Step → Nat → Option β} {S S' : Nat → Bool} {l : List Step} {i : Nat} {s : Step} (hi : l[i]? = some s) (hS : ∀ k, k ≠ i → S' k = S k) (h1 : S' i = true) (h0 : S i = false)
    {f : Nat → β} {t : Nat} (hlast : (p s t).isSome → ∀ k s', l[k]? = some s' → i < k → (p s' t).isSome → S k = false) :
    foldG p S' 0 l f t = updG (foldG p S 0 l f) (p s) t := by
  obtain ⟨hlt, hget⟩ := List.getElem?_eq_some_iff.1 hi
  have hsplit : l = l.take i ++ s :: l.drop (i + 1) := by
    rw [← hget, ← List.drop_eq_getElem_cons hlt, List.take_append_drop]
  have hlen : (l.take i).length = i := by simp; omega
  have hg : foldG p S' 0 (l.take i) f = foldG p S 0 (l.take i) f := by
    funext t
    refine foldG_congr _ _ _ _ (fun k s' hs _ => ?_) rfl
    rw [Nat.zero_add]
    refine hS k ?_
    have := (List.getElem?_eq_some_iff.1 hs).1
    omega
  have e1 : foldG p S' 0 l f = foldG p S' (i + 1) (l.drop (i + 1)) (updG (foldG p S 0 (l.take i) f) (p s)) := by
    conv => lhs; rw [hsplit]
    rw [foldG_append, hlen, Nat.zero_add, foldG, h1, hg]; rfl
  have e2 : foldG p S 0 l f = foldG p S (i + 1) (l.drop (i + 1)) (foldG p S 0 (l.take i) f) := by
    conv => lhs; rw [hsplit]
    rw [foldG_append, hlen, Nat.zero_add, foldG, h0]; rfl
  rw [e1, updG, e2]
  cases hp : p s t with
  | none =>
    refine foldG_congr _ _ _ _ (fun k s' _ _ => hS _ (by omega)) ?_
    simp [updG, hp]
  | some b =>
    have : foldG p S' (i + 1) (l.drop (i + 1)) (updG (foldG p S 0 (l.take i) f) (p s)) t = foldG p (fun _ => false) (i + 1) (l.drop (i + 1)) (updG (foldG p S 0 (l.take i) f) (p s)) t := by
      refine foldG_congr _ _ _ _ (fun k s' hs hps => ?_) rfl
      rw [hS _ (by omega)]
      refine hlast (by rw [hp]; rfl) (i + 1 + k) s' ?_ (by omega) hps
      rw [List.getElem?_drop] at hs; exact hs
    rw [this]
    have hno : ∀ (l : List Step) (o : Nat) (f : Nat → β), foldG p (fun _ => false) o l f = f := by
      intro l
      induction l with
      | nil => intro o f; rfl
      | cons s l ih => intro o f; simp [foldG, ih]
    rw [hno]
    simp [updG, hp]
end

theorem upd_pT (f : Nat → SV) (s : Step) : upd f s.o.dst s.v = updG f (pT s) := by
  funext t
  unfold upd updG pT
  cases s.o.dst with
  | none => rfl
  | some d => by_cases h : t = d <;> simp [h]

theorem updS_pS (f : Nat → Option SB) (s : Step) : updS f s.u = updG f (pS s) := by
  funext id
  unfold updG pS
  generalize s.u = u
  induction u with
  | nil => rfl
  | cons p u ih =>
    obtain ⟨i, o⟩ := p
    by_cases h : id = i
    · simp [updS, look1, h]
    · simp only [updS, look1, h, if_false]; exact ih

theorem get_post (s : Step) : get s.post.tmps = upd (get s.st.tmps) s.o.dst s.v := by
  funext t
  unfold Step.post setDst upd
  cases s.o.dst with
  | none => rfl
  | some d =>
    simp only [get]
    by_cases h : t = d
    · subst h; simp
    · have : Nat.beq d t = false := by rw [Bool.eq_false_iff]; intro e; exact h (Nat.eq_of_beq_eq_true e).symm
      simp [this, h]

theorem look_post (s : Step) : look s.post.store = updS (look s.st.store) s.u := by
  funext id
  exact look_updS _ _ _

theorem mem_addTo : ∀ (r l : List Nat) (x : Nat), x ∈ addTo l r ↔ x ∈ l ∨ x ∈ r
  | [], l, x => by simp [addTo]
  | y :: r, l, x => by
    simp only [addTo]
    cases h : l.any (Nat.beq y) with
    | true =>
      have := any_beq.1 h
      simp only [cond_true]
      rw [mem_addTo r l x, List.mem_cons]
      constructor
      · rintro (h | h)
        · exact .inl h
        · exact .inr (.inr h)
      · rintro (h | rfl | h)
        · exact .inl h
        · exact .inl this
        · exact .inr h
    | false =>
      simp only [cond_false]
      rw [mem_addTo r (y :: l) x, List.mem_cons, List.mem_cons]
      constructor
      · rintro ((rfl | h) | h)
        · exact .inr (.inl rfl)
        · exact .inl h
        · exact .inr (.inr h)
      · rintro (h | rfl | h)
        · exact .inl (.inr h)
        · exact .inl (.inl rfl)
        · exact .inr h

/-- The state of a frame as it is told. -/
def Now (B : Base P) (st : St) (a : Act) (w : World) : Prop :=
  B.n ≤ st.nxt ∧ ∃ ρ T, Holds B (get st.tmps) (look st.store) (fun id => id < st.nxt) st.dirty st.nt a w ρ T

/-- A region that is run as it is written. -/
theorem chain_text {ops : Array Oper} {Q : Exit → Act → World → Prop} {B : Base P} {F : Fence} {n : Nat} (hF : Wd F) : ∀ {l : List Step} {st st' : St}, Chain P ops.toList st l st' → ∀ (k : Nat) (a : Act) (w : World),
    (∀ j, (l.map (·.o))[j]? = ops[k + j]?) → Now B st a w → (∀ s ∈ l, ∀ d, s.o.dst = some d → d < st.nt) →
    (∀ a' w', Now B st' a' w' → Q .normal a' w') → wpOpsIn F n P ops Q (List.range' k l.length) a w := by
  intro l st st' hc
  induction hc with
  | nil st => intro k a w _ h _ hQ; exact hQ a w h
  | @cons st st' s l hsame hok hc ih =>
    intro k a w hops ⟨hB, ρ, T, h⟩ hd hQ
    simp only [List.length_cons, List.range'_succ]
    rw [wpOpsIn_cons]
    have hi : ops[k]? = some s.o := by have := hops 0; simp at this; exact this.symm
    have ht : get st.tmps = get s.st.tmps := funext hsame.tmps
    have h0 := h
    rw [ht, hsame.store, hsame.nxt, hsame.dirty, hsame.nt] at h0
    rw [hsame.nxt] at hB
    refine op_step hok hi h0 (fun _ _ => rfl) (fun _ _ => rfl) (fun id h1 _ h2 => by omega) hB (fun d hdst => by have := hd s (by simp) d hdst; rw [hsame.nt] at this; exact this)
      (fun id sb hl => (h0.store id sb hl).1) (D' := s.post.dirty) (A' := fun id => id < s.post.nxt) ?_ ?_ ?_ ?_ hF
    · intro p hp; exact (mem_addTo _ _ _).2 (.inl hp)
    · intro p hp; exact (mem_addTo _ _ _).2 (.inr hp)
    · intro id
      show id < s.n ↔ id < s.st.nxt ∨ (s.st.nxt ≤ id ∧ id < s.n)
      have := hok.nxt
      omega
    · intro a' w' ρ' T' h1
      refine ih (k + 1) a' w' (fun j => ?_) ⟨Nat.le_trans hB hok.nxt, ρ', T', ?_⟩ (fun s' hs' d hdst => ?_) hQ
      · have := hops (j + 1)
        rw [show k + 1 + j = k + (j + 1) by omega]; simpa using this
      · rw [get_post, look_post]; exact h1
      · have := hd s' (by simp [hs']) d hdst
        rw [hsame.nt] at this; exact this

end Go.Se

/- Part 13: a region's operations in any order that its edges let. -/
namespace Go.Se
variable {P : Program}

structure AtStep (P : Program) (all : List Oper) (o : Nat) (st st' : St) (l : List Step) (i : Nat) (s : Step) : Prop where
  ok : StepOK P all s
  tm : get s.st.tmps = foldG pT (fun k => decide (k < o + i)) o l (get st.tmps)
  sf : look s.st.store = foldG pS (fun k => decide (k < o + i)) o l (look st.store)
  nt : s.st.nt = st.nt
  lo : st.nxt ≤ s.st.nxt
  hi : s.n ≤ st'.nxt
  after : ∀ (k : Nat) (s' : Step), l[k]? = some s' → i < k → s.n ≤ s'.st.nxt
  wr : ∀ p, p ∈ s.wr → p ∈ st'.dirty
  scope : (∀ id sb, look st.store id = some sb → id < st.nxt) → ∀ id sb, look s.st.store id = some sb → id < s.st.nxt

theorem foldG_none {β : Type} (p : Step → Nat → Option β) (S : Nat → Bool) : ∀ (l : List Step) (o : Nat) (f : Nat → β), (∀ k, o ≤ k → S k = false) → foldG p S o l f = f
  | [], _, _, _ => rfl
  | s :: l, o, f, h => by
    simp only [foldG, h o (Nat.le_refl _), Bool.false_eq_true, if_false]
    exact foldG_none p S l (o + 1) f fun k hk => h k (by omega)

structure ChainEnds (st st' : St) (l : List Step) (o : Nat) : Prop where
  tm : get st'.tmps = foldG pT (fun _ => true) o l (get st.tmps)
  sf : look st'.store = foldG pS (fun _ => true) o l (look st.store)
  nt : st'.nt = st.nt
  dirty : ∀ p, p ∈ st.dirty → p ∈ st'.dirty
  nxt : ∀ id, id < st'.nxt ↔ id < st.nxt ∨ ∃ (k : Nat) (s : Step), l[k]? = some s ∧ s.st.nxt ≤ id ∧ id < s.n
  le : st.nxt ≤ st'.nxt

theorem chain_ends {all : List Oper} {st st' : St} {l : List Step} (hc : Chain P all st l st') : ∀ o, ChainEnds st st' l o := by
  induction hc with
  | nil st => exact fun o => ⟨rfl, rfl, rfl, fun _ h => h, fun id => by simp, Nat.le_refl _⟩
  | @cons st st' s l hsame hok hc ih =>
    intro o
    have h := ih (o + 1)
    have ht : get st.tmps = get s.st.tmps := funext hsame.tmps
    refine ⟨?_, ?_, ?_, ?_, ?_, ?_⟩
    · rw [h.tm, get_post, upd_pT, ht]; rfl
    · rw [h.sf, look_post, updS_pS, hsame.store]; rfl
    · rw [h.nt, hsame.nt]; rfl
    · intro p hp
      rw [hsame.dirty] at hp
      exact h.dirty p ((mem_addTo _ _ _).2 (.inl hp))
    · intro id
      rw [h.nxt id]
      have hn : s.post.nxt = s.n := rfl
      have hle := hok.nxt
      rw [hn, hsame.nxt]
      constructor
      · rintro (h1 | ⟨k, s', h1, h2⟩)
        · by_cases h2 : id < s.st.nxt
          · exact .inl h2
          · exact .inr ⟨0, s, rfl, by omega, h1⟩
        · exact .inr ⟨k + 1, s', by simpa using h1, h2⟩
      · rintro (h1 | ⟨k, s', h1, h2, h3⟩)
        · left; omega
        · cases k with
          | zero => simp at h1; subst h1; exact .inl h3
          | succ k => exact .inr ⟨k, s', by simpa using h1, h2, h3⟩
    · have := h.le
      have hn : s.post.nxt = s.n := rfl
      have hle := hok.nxt
      rw [hsame.nxt]; omega

theorem chain_at {all : List Oper} {st st' : St} {l : List Step} (hc : Chain P all st l st') : ∀ (o i : Nat) (s : Step), l[i]? = some s → AtStep P all o st st' l i s := by
  induction hc with
  | nil st => intro o i s h; simp at h
  | @cons st st' s0 l hsame hok hc ih =>
    intro o i s hi
    have ht : get st.tmps = get s0.st.tmps := funext hsame.tmps
    have hends := chain_ends hc (o + 1)
    cases i with
    | zero =>
      simp only [List.getElem?_cons_zero, Option.some.injEq] at hi
      subst hi
      refine ⟨hok, ?_, ?_, hsame.nt.symm, by rw [hsame.nxt]; exact Nat.le_refl _, hends.le, ?_, ?_, ?_⟩
      · rw [foldG_none _ _ _ _ _ (fun k hk => by simp; omega), ht]
      · rw [foldG_none _ _ _ _ _ (fun k hk => by simp; omega), hsame.store]
      · intro k s' hk hlt
        obtain ⟨j, rfl⟩ : ∃ j, k = j + 1 := ⟨k - 1, by omega⟩
        exact (ih (o + 1) j s' (by simpa using hk)).lo
      · intro p hp
        exact hends.dirty p ((mem_addTo _ _ _).2 (.inr hp))
      · intro h id sb hid
        rw [hsame.store, hsame.nxt] at h
        exact h id sb hid
    | succ i =>
      have h := ih (o + 1) i s (by simpa using hi)
      refine ⟨h.ok, ?_, ?_, h.nt.trans hsame.nt.symm, ?_, h.hi, ?_, h.wr, ?_⟩
      · rw [h.tm, get_post, upd_pT, ← ht]
        simp only [foldG, show decide (o < o + (i + 1)) = true by simp, if_true]
        rw [show o + 1 + i = o + (i + 1) by omega]
      · rw [h.sf, look_post, updS_pS, ← hsame.store]
        simp only [foldG, show decide (o < o + (i + 1)) = true by simp, if_true]
        rw [show o + 1 + i = o + (i + 1) by omega]
      · have h1 := h.lo
        have hn : s0.post.nxt = s0.n := rfl
        have := hok.nxt
        rw [hsame.nxt]; omega
      · intro k s' hk hlt
        obtain ⟨j, rfl⟩ : ∃ j, k = j + 1 := ⟨k - 1, by omega⟩
        exact h.after j s' (by simpa using hk) (by omega)
      · intro hlt
        refine h.scope fun id sb hid => ?_
        rw [hsame.store, hsame.nxt] at hlt
        rw [look_post] at hid
        have hn : s0.post.nxt = s0.n := rfl
        have hle := hok.nxt
        rw [hn]
        rcases updS_cases (look s0.st.store) s0.u id with ⟨o', h1, h2⟩ | ⟨_, h2⟩
        · rcases hok.keys id o' h1 with h3 | h3
          · obtain ⟨sb', hsb'⟩ := hok.alive id (.inr h3)
            have := hlt id sb' hsb'
            omega
          · exact h3.2
        · rw [h2] at hid
          have := hlt id sb hid
          omega

theorem fixed_pairwise {bs : List Nat} : ∀ {tr : List Rec}, fixedOrder bs tr = true → tr.Pairwise fun b a => clash a b = true → (bs.getD b.i 0).testBit a.i = true
  | [], _ => List.Pairwise.nil
  | b :: r, h => by
    simp only [fixedOrder, Bool.and_eq_true, List.all_eq_true] at h
    refine List.Pairwise.cons (fun a ha hcl => ?_) (fixed_pairwise h.2)
    have := h.1 a ha
    rw [hcl] at this
    simpa using this

theorem recs_get : ∀ (l : List Step) (o i : Nat), (recs o l)[i]? = (l[i]?).map (·.toRec (o + i))
  | [], o, i => by simp [recs]
  | s :: l, o, 0 => by simp [recs]
  | s :: l, o, i + 1 => by
    simp only [recs, List.getElem?_cons_succ]
    rw [recs_get l (o + 1) i, show o + 1 + i = o + (i + 1) by omega]

theorem fixed_clash {bs : List Nat} {l : List Step} (h : fixedOrder bs (recs 0 l).reverse = true) {i j : Nat} {s s' : Step} (hi : l[i]? = some s) (hj : l[j]? = some s') (hlt : i < j)
    (hcl : clash (s.toRec i) (s'.toRec j) = true) : (bs.getD j 0).testBit i = true := by
  have hp := List.pairwise_reverse.1 (fixed_pairwise h)
  have h1 : (recs 0 l)[i]? = some (s.toRec i) := by rw [recs_get, hi]; simp
  have h2 : (recs 0 l)[j]? = some (s'.toRec j) := by rw [recs_get, hj]; simp
  obtain ⟨hi', e1⟩ := List.getElem?_eq_some_iff.1 h1
  obtain ⟨hj', e2⟩ := List.getElem?_eq_some_iff.1 h2
  have := List.pairwise_iff_getElem.1 hp i j hi' hj' hlt
  rw [e1, e2] at this
  exact this hcl

def maskOf (acc : List Nat) (o : Oper) : Nat := o.after.toList.foldl (fun s e => bif Region.binds .any e then s ||| (1 <<< e.on) ||| acc.getD e.on 0 else s) 0

theorem mask_bits {acc : List Nat} {a : Nat} : ∀ (es : List Edge) (s : Nat), (es.foldl (fun s e => bif Region.binds .any e then s ||| (1 <<< e.on) ||| acc.getD e.on 0 else s) s).testBit a = true →
    s.testBit a = true ∨ ∃ e ∈ es, Region.binds .any e = true ∧ (e.on = a ∨ (acc.getD e.on 0).testBit a = true)
  | [], s, h => .inl h
  | e :: es, s, h => by
    rw [List.foldl_cons] at h
    rcases mask_bits es _ h with h1 | ⟨e', h1, h2⟩
    · cases hb : Region.binds .any e with
      | false => rw [hb] at h1; exact .inl h1
      | true =>
        rw [hb] at h1
        simp only [cond_true, Nat.testBit_or, Bool.or_eq_true] at h1
        rcases h1 with (h1 | h1) | h1
        · exact .inl h1
        · right
          refine ⟨e, by simp, hb, .inl ?_⟩
          rw [Nat.testBit_shiftLeft] at h1
          simp only [Bool.and_eq_true, decide_eq_true_eq] at h1
          have h3 := h1.2
          rw [show (1 : Nat) = 2 ^ 0 from rfl, Nat.testBit_two_pow] at h3
          simp at h3
          omega
        · exact .inr ⟨e, by simp, hb, .inr h1⟩
    · exact .inr ⟨e', by simp [h1], h2⟩

theorem befores_get : ∀ (r : List Oper) (acc : List Nat) (j : Nat), j < acc.length → (befores r acc).getD j 0 = acc.getD j 0
  | [], acc, j, _ => rfl
  | o :: r, acc, j, h => by
    simp only [befores]
    rw [befores_get r _ j (by simp; omega)]
    simp only [List.getD_eq_getElem?_getD]
    rw [List.getElem?_append_left h]

theorem befores_new : ∀ (r : List Oper) (acc : List Nat) (i : Nat) (o : Oper), r[i]? = some o →
    ∃ acc', acc'.length = acc.length + i ∧ (befores r acc).getD (acc.length + i) 0 = maskOf acc' o ∧ ∀ j, j < acc.length + i → (befores r acc).getD j 0 = acc'.getD j 0
  | [], acc, i, o, h => by simp at h
  | o0 :: r, acc, 0, o, h => by
    simp only [List.getElem?_cons_zero, Option.some.injEq] at h
    subst h
    refine ⟨acc, rfl, ?_, fun j hj => ?_⟩
    · simp only [befores]
      rw [befores_get r _ _ (by simp)]
      simp only [List.getD_eq_getElem?_getD, Nat.add_zero]
      rw [List.getElem?_append_right (Nat.le_refl _)]
      simp [maskOf]
    · simp only [befores]
      rw [befores_get r _ _ (by simp; omega)]
      simp only [List.getD_eq_getElem?_getD]
      rw [List.getElem?_append_left (by omega)]
  | o0 :: r, acc, i + 1, o, h => by
    simp only [List.getElem?_cons_succ] at h
    simp only [befores]
    obtain ⟨acc', h1, h2, h3⟩ := befores_new r (acc ++ [o0.after.toList.foldl (fun s e => bif Region.binds .any e then s ||| (1 <<< e.on) ||| acc.getD e.on 0 else s) 0]) i o h
    simp only [List.length_append, List.length_singleton] at h1 h2 h3
    exact ⟨acc', by omega, by rw [show acc.length + (i + 1) = acc.length + 1 + i by omega]; exact h2, fun j hj => h3 j (by omega)⟩

theorem edges_lt : ∀ {ops : List Oper} {k : Nat}, edgesOk k ops = true → ∀ i o, ops[i]? = some o → ∀ e ∈ o.after, Region.binds .any e = true → e.on < k + i
  | [], _, _, i, o, h, _, _, _ => by simp at h
  | o0 :: r, k, h, 0, o, ho, e, he, hb => by
    simp only [edgesOk, Bool.and_eq_true, List.all_eq_true] at h
    simp only [List.getElem?_cons_zero, Option.some.injEq] at ho
    subst ho
    have := h.1 e (by simpa using he)
    rw [hb] at this
    simpa using this
  | o0 :: r, k, h, i + 1, o, ho, e, he, hb => by
    simp only [edgesOk, Bool.and_eq_true] at h
    have := edges_lt h.2 i o (by simpa using ho) e he hb
    omega

/-- What stands before an operation has been run, wherever the run stands. -/
theorem before_run {ops : List Oper} (hedge : edgesOk 0 ops = true) {S : Nat → Bool} (hdown : ∀ j o, ops[j]? = some o → S j = true → ∀ e ∈ o.after, Region.binds .any e = true → S e.on = true) :
    ∀ (j : Nat) (o : Oper) (a : Nat), ops[j]? = some o → (∀ e ∈ o.after, Region.binds .any e = true → S e.on = true) → ((befores ops []).getD j 0).testBit a = true → S a = true := by
  intro j
  induction j using Nat.strongRecOn with
  | _ j ih =>
    intro o a ho hS hbit
    obtain ⟨acc', h1, h2, h3⟩ := befores_new ops [] j o ho
    simp only [List.length_nil, Nat.zero_add] at h1 h2 h3
    rw [h2] at hbit
    rcases mask_bits _ _ hbit with h4 | ⟨e, he, hb, h4⟩
    · simp at h4
    · have he' : e ∈ o.after := by simpa using he
      have hlt := edges_lt hedge j o ho e he' hb
      rw [Nat.zero_add] at hlt
      rcases h4 with h4 | h4
      · rw [← h4]; exact hS e he' hb
      · rw [← h3 e.on hlt] at h4
        have hSe := hS e he' hb
        have hj : j < ops.length := (List.getElem?_eq_some_iff.1 ho).1
        have hon : ops[e.on]? = some ops[e.on] := List.getElem?_eq_getElem (by omega)
        exact ih e.on hlt ops[e.on] a hon (hdown e.on _ hon hSe) h4


theorem meets_iff {a b : List Nat} : meets a b = true ↔ ∃ x, x ∈ a ∧ x ∈ b := by
  unfold meets
  rw [List.any_eq_true]
  constructor
  · rintro ⟨x, hx, h⟩; exact ⟨x, hx, any_beq.1 h⟩
  · rintro ⟨x, hx, h⟩; exact ⟨x, hx, any_beq.2 h⟩

theorem mem_upFrom : ∀ (k a x : Nat), x ∈ upFrom a k ↔ a ≤ x ∧ x < a + k
  | 0, a, x => by simp [upFrom]
  | k + 1, a, x => by
    rw [upFrom, List.mem_cons, mem_upFrom k (a + 1) x]; omega

theorem mem_writes {s : Step} {x : Nat} (h : s.st.nxt ≤ s.n) : x ∈ s.writes ↔ x ∈ s.wr ∨ (s.st.nxt ≤ x ∧ x < s.n) := by
  unfold Step.writes
  rw [List.mem_append, mem_upFrom]
  constructor
  · rintro (h1 | h1)
    · exact .inl h1
    · right; omega
  · rintro (h1 | h1)
    · exact .inl h1
    · right; omega

theorem pT_some {s : Step} {t : Nat} : (pT s t).isSome ↔ s.o.dst = some t := by
  unfold pT
  cases s.o.dst with
  | none => simp
  | some d =>
    by_cases h : t = d
    · simp [h]
    · simp only [h, if_false, Option.isSome_none, Bool.false_eq_true, Option.some.injEq, false_iff]
      exact fun h' => h h'.symm

theorem look1_mem : ∀ {u : Store} {id : Nat}, (look1 u id).isSome → ∃ o, (id, o) ∈ u
  | [], id, h => by simp [look1] at h
  | (i, o) :: u, id, h => by
    simp only [look1] at h
    by_cases e : id = i
    · subst e; exact ⟨o, by simp⟩
    · rw [if_neg e] at h
      obtain ⟨o', ho'⟩ := look1_mem h
      exact ⟨o', by simp [ho']⟩

theorem count_set : ∀ (l : List Bool) (i : Nat), l[i]? = some false → ((l.set i true).filter (!·)).length + 1 = (l.filter (!·)).length
  | [], i, h => by simp at h
  | b :: l, 0, h => by
    simp only [List.getElem?_cons_zero, Option.some.injEq] at h
    subst h; simp
  | b :: l, i + 1, h => by
    have := count_set l i (by simpa using h)
    cases b <;> simp [this]

section
variable {ops : Array Oper} {Q : Exit → Act → World → Prop} {B : Base P} {l : List Step} {st0 stm : St}

/-- Which names are given. -/
def given (st0 : St) (l : List Step) (S : Nat → Bool) (id : Nat) : Prop := id < st0.nxt ∨ ∃ (k : Nat) (s : Step), l[k]? = some s ∧ S k = true ∧ s.st.nxt ≤ id ∧ id < s.n

/-- What writes a name is told of it. -/
theorem keys_writes {s : Step} (hs : StepOK P ops.toList s) {id : Nat} (h : (pS s id).isSome) : id ∈ s.writes := by
  obtain ⟨o, ho⟩ := look1_mem h
  exact (mem_writes hs.nxt).2 (hs.keys id o ho)

theorem chain_any (hc : Chain P ops.toList st0 l stm) (hl : l.map (·.o) = ops.toList) (hfix : fixedOrder (befores ops.toList []) (recs 0 l).reverse = true) (hedge : edgesOk 0 ops.toList = true)
    (hdst : ∀ s ∈ l, ∀ d, s.o.dst = some d → d < st0.nt) (hQ : ∀ a' w', Now B stm a' w' → Q .normal a' w') (hB : B.n ≤ st0.nxt)
    (hlt0 : ∀ id sb, look st0.store id = some sb → id < st0.nxt) {F : Fence} {n : Nat} (hF : Wd F) :
    ∀ (fuel : Nat) (listed : Array Bool) (a : Act) (w : World), listed.size = ops.size → (listed.toList.filter (!·)).length ≤ fuel →
      (∀ j o, ops[j]? = some o → listed.getD j false = true → ∀ e ∈ o.after, Region.binds .any e = true → listed.getD e.on false = true) →
      (∃ ρ T, Holds B (foldG pT (fun k => listed.getD k false) 0 l (get st0.tmps)) (foldG pS (fun k => listed.getD k false) 0 l (look st0.store))
        (given st0 l (fun k => listed.getD k false)) stm.dirty st0.nt a w ρ T) →
      wpAnyIn F n P .any ops Q fuel listed a w := by
  have hlen : l.length = ops.size := by have := congrArg List.length hl; simpa using this
  have hops : ∀ (i : Nat) (s : Step), l[i]? = some s → ops[i]? = some s.o := by
    intro i s h
    have : (l.map (·.o))[i]? = some s.o := by simp [h]
    rw [hl] at this
    rw [← Array.getElem?_toList]; exact this
  have hends := chain_ends hc 0
  have hall : ∀ (listed : Array Bool) (a : Act) (w : World), listed.size = ops.size → (∀ k, k < ops.size → listed.getD k false = true) →
      (∃ ρ T, Holds B (foldG pT (fun k => listed.getD k false) 0 l (get st0.tmps)) (foldG pS (fun k => listed.getD k false) 0 l (look st0.store))
        (given st0 l (fun k => listed.getD k false)) stm.dirty st0.nt a w ρ T) → Q .normal a w := by
    rintro listed a w hsz hfull ⟨ρ, T, h⟩
    have hk : ∀ (k : Nat) (s : Step), l[k]? = some s → listed.getD k false = true := fun k s hs => hfull k (by have := (List.getElem?_eq_some_iff.1 hs).1; omega)
    have e1 : foldG pT (fun k => listed.getD k false) 0 l (get st0.tmps) = get stm.tmps := by
      rw [hends.tm]; funext t
      exact foldG_congr _ _ _ _ (fun k s hs _ => by rw [Nat.zero_add]; exact hk k s hs) rfl
    have e2 : foldG pS (fun k => listed.getD k false) 0 l (look st0.store) = look stm.store := by
      rw [hends.sf]; funext t
      exact foldG_congr _ _ _ _ (fun k s hs _ => by rw [Nat.zero_add]; exact hk k s hs) rfl
    have e3 : given st0 l (fun k => listed.getD k false) = fun id => id < stm.nxt := by
      funext id
      apply propext
      rw [hends.nxt id]
      unfold given
      constructor
      · rintro (h | ⟨k, s, h1, _, h2⟩)
        · exact .inl h
        · exact .inr ⟨k, s, h1, h2⟩
      · rintro (h | ⟨k, s, h1, h2⟩)
        · exact .inl h
        · exact .inr ⟨k, s, h1, hk k s h1, h2⟩
    rw [e1, e2, e3, ← hends.nt] at h
    exact hQ a w ⟨Nat.le_trans hB hends.le, ρ, T, h⟩
  -- where nothing is ready all has been run
  have hready : ∀ (listed : Array Bool), listed.size = ops.size → Region.ready .any ops listed = [] → ∀ k, k < ops.size → listed.getD k false = true := by
    intro listed hsz hr k
    induction k using Nat.strongRecOn with
    | _ k ih =>
      intro hk
      cases hlk : listed.getD k false with
      | true => rfl
      | false =>
        exfalso
        have hmem : k ∈ Region.ready .any ops listed := by
          rw [mem_ready]
          refine ⟨?_, ops[k], Array.getElem?_eq_getElem hk, fun e he hb => ?_⟩
          · simp only [Array.getD_eq_getD_getElem?] at hlk ⊢
            rw [Array.getElem?_eq_getElem (by omega)] at hlk ⊢
            exact hlk
          · have := edges_lt hedge k ops[k] (by rw [Array.getElem?_toList]; exact Array.getElem?_eq_getElem hk) e he hb
            exact ih e.on (by omega) (by omega)
        rw [hr] at hmem; cases hmem
  intro fuel
  induction fuel with
  | zero =>
    intro listed a w hsz hcount hdown hinv
    have hfull : ∀ k, k < ops.size → listed.getD k false = true := by
      intro k hk
      cases hlk : listed.getD k false with
      | true => rfl
      | false =>
        exfalso
        have hf : false ∈ listed.toList.filter (!·) := by
          rw [List.mem_filter]
          refine ⟨?_, rfl⟩
          have : listed[k]? = some false := by
            simp only [Array.getD_eq_getD_getElem?] at hlk
            rw [Array.getElem?_eq_getElem (by omega)] at hlk ⊢
            simpa using hlk
          exact Array.mem_def.1 (Array.mem_of_getElem? this)
        have := List.length_pos_of_mem hf
        omega
    refine ⟨?_, hall listed a w hsz hfull hinv⟩
    rw [List.eq_nil_iff_forall_not_mem]
    intro j hj
    rw [mem_ready] at hj
    obtain ⟨h1, o, ho, _⟩ := hj
    have hj' := (Array.getElem?_eq_some_iff.1 ho).1
    have h2 := hfull j hj'
    simp only [Array.getD_eq_getD_getElem?] at h1 h2
    rw [Array.getElem?_eq_getElem (by omega)] at h1 h2
    simp only [Option.getD_some] at h1 h2
    rw [h1] at h2; cases h2
  | succ fuel ih =>
    intro listed a w hsz hcount hdown hinv
    refine ⟨fun hr => hall listed a w hsz (hready listed hsz hr) hinv, fun i hi => ?_⟩
    rw [mem_ready] at hi
    obtain ⟨hi0, o, ho, hedges⟩ := hi
    have hilt : i < ops.size := (Array.getElem?_eq_some_iff.1 ho).1
    have hil : i < l.length := by omega
    obtain ⟨s, hs⟩ : ∃ s, l[i]? = some s := ⟨l[i], List.getElem?_eq_getElem hil⟩
    have hso : s.o = o := by have := hops i s hs; rw [ho] at this; cases this; rfl
    subst hso
    have hat := chain_at hc 0 i s hs
    have hattm := hat.tm
    have hatsf := hat.sf
    simp only [Nat.zero_add] at hattm hatsf
    have hSi : listed.getD i false = false := by
      simp only [Array.getD_eq_getD_getElem?] at hi0 ⊢
      rw [Array.getElem?_eq_getElem (by omega)] at hi0 ⊢
      exact hi0
    let S : Nat → Bool := fun k => listed.getD k false
    have hdownL : ∀ j o, ops.toList[j]? = some o → S j = true → ∀ e ∈ o.after, Region.binds .any e = true → S e.on = true := by
      intro j o hj; rw [Array.getElem?_toList] at hj; exact hdown j o hj
    -- what clashes with this operation has been run just if it stands before
    have hclash : ∀ (k : Nat) (s' : Step), l[k]? = some s' → k ≠ i → (∀ x y : Nat × Step, x = (k, s') ∨ y = (k, s') → x.1 < y.1 → (x = (i, s) ∨ y = (i, s)) → clash (x.2.toRec x.1) (y.2.toRec y.1) = true) → S k = decide (k < i) := by
      intro k s' hk hne hcl
      rcases Nat.lt_or_gt_of_ne hne with hlt | hgt
      · have hbit := fixed_clash hfix hk hs hlt (hcl (k, s') (i, s) (.inl rfl) hlt (.inr rfl))
        have := before_run hedge hdownL i s.o k (by rw [Array.getElem?_toList]; exact ho) hedges hbit
        rw [this]; simp [hlt]
      · have hbit := fixed_clash hfix hs hk hgt (hcl (i, s) (k, s') (.inr rfl) hgt (.inl rfl))
        cases hSk : S k with
        | false => simp; omega
        | true =>
          have hok := hops k s' hk
          have := before_run hedge hdownL k s'.o i (by rw [Array.getElem?_toList]; exact hok) (hdownL k s'.o (by rw [Array.getElem?_toList]; exact hok) hSk) hbit
          have h2 : S i = false := hSi
          rw [this] at h2; cases h2
    have hSi' : S i = decide (i < i) := by rw [show S i = false from hSi]; simp
    -- reads and writes of temporaries
    have hT : ∀ (t k : Nat) (s' : Step), l[k]? = some s' → s'.o.dst = some t → (t ∈ s.looks ∨ s.o.dst = some t) → S k = decide (k < i) := by
      intro t k s' hk hd ht
      by_cases hne : k = i
      · subst hne; exact hSi'
      · refine hclash k s' hk hne fun x y hx hlt hy => ?_
        have hcase : (x = (k, s') ∧ y = (i, s)) ∨ (x = (i, s) ∧ y = (k, s')) := by
          rcases hx with rfl | rfl <;> rcases hy with hy | hy
          · exact absurd (congrArg Prod.fst hy) hne
          · exact .inl ⟨rfl, hy⟩
          · exact .inr ⟨hy, rfl⟩
          · exact absurd (congrArg Prod.fst hy) hne
        rcases hcase with ⟨rfl, rfl⟩ | ⟨rfl, rfl⟩
        · rcases ht with ht | ht
          · have : s.looks.any (Nat.beq t) = true := any_beq.2 ht
            simp [clash, Step.toRec, hd, this]
          · simp [clash, Step.toRec, hd, ht]
        · rcases ht with ht | ht
          · have : s.looks.any (Nat.beq t) = true := any_beq.2 ht
            simp [clash, Step.toRec, hd, this]
          · simp [clash, Step.toRec, hd, ht]
    have hS' : ∀ (id k : Nat) (s' : Step), l[k]? = some s' → id ∈ s'.writes → (id ∈ s.rd ∨ id ∈ s.writes) → S k = decide (k < i) := by
      intro id k s' hk hd ht
      by_cases hne : k = i
      · subst hne; exact hSi'
      · refine hclash k s' hk hne fun x y hx hlt hy => ?_
        have hcase : (x = (k, s') ∧ y = (i, s)) ∨ (x = (i, s) ∧ y = (k, s')) := by
          rcases hx with rfl | rfl <;> rcases hy with hy | hy
          · exact absurd (congrArg Prod.fst hy) hne
          · exact .inl ⟨rfl, hy⟩
          · exact .inr ⟨hy, rfl⟩
          · exact absurd (congrArg Prod.fst hy) hne
        rcases hcase with ⟨rfl, rfl⟩ | ⟨rfl, rfl⟩
        · rcases ht with ht | ht
          · have : meets s'.writes s.rd = true := meets_iff.2 ⟨id, hd, ht⟩
            simp [clash, Step.toRec, this]
          · have : meets s'.writes s.writes = true := meets_iff.2 ⟨id, hd, ht⟩
            simp [clash, Step.toRec, this]
        · rcases ht with ht | ht
          · have : meets s.rd s'.writes = true := meets_iff.2 ⟨id, ht, hd⟩
            simp [clash, Step.toRec, this]
          · have : meets s.writes s'.writes = true := meets_iff.2 ⟨id, ht, hd⟩
            simp [clash, Step.toRec, this]
    have hkw : ∀ (k : Nat) (s' : Step) (id : Nat), l[k]? = some s' → (pS s' id).isSome → id ∈ s'.writes := by
      intro k s' id hk hp
      exact keys_writes (chain_at hc 0 k s' hk).ok hp
    obtain ⟨ρ, T, h⟩ := hinv
    let S1 : Nat → Bool := fun k => (listed.setIfInBounds i true).getD k false
    have hS1i : S1 i = true := by
      show (listed.setIfInBounds i true).getD i false = true
      rw [Array.getD_eq_getD_getElem?, Array.getElem?_setIfInBounds_self_of_lt (by omega)]; rfl
    have hS1 : ∀ k, k ≠ i → S1 k = S k := by
      intro k hk
      show (listed.setIfInBounds i true).getD k false = listed.getD k false
      rw [Array.getD_eq_getD_getElem?, Array.getD_eq_getD_getElem?, Array.getElem?_setIfInBounds_ne (Ne.symm hk)]
    have hlts := hat.scope hlt0
    refine op_step hat.ok ho h ?_ ?_ ?_ (Nat.le_trans hB hat.lo) (hdst s (List.mem_of_getElem? hs)) hlts (D' := stm.dirty) (A' := given st0 l S1) (fun _ h => h) hat.wr ?_ ?_ hF
    · intro t ht
      rw [hattm]
      refine foldG_congr _ _ _ _ (fun k s' hk hp => ?_) rfl
      rw [Nat.zero_add]
      exact hT t k s' hk (pT_some.1 hp) (.inl ht)
    · intro id hid
      rw [hatsf]
      refine foldG_congr _ _ _ _ (fun k s' hk hp => ?_) rfl
      rw [Nat.zero_add]
      exact hS' id k s' hk (hkw k s' id hk hp) (hid.imp (fun h => h) fun h => (mem_writes hat.ok.nxt).2 (.inl h))
    · intro id h1 h2 h3
      rcases h3 with h3 | ⟨k, s', hk, hSk, h4, h5⟩
      · have := hat.lo; omega
      · have hatk := chain_at hc 0 k s' hk
        rcases Nat.lt_trichotomy k i with h6 | h6 | h6
        · have := hatk.after i s hs h6; omega
        · subst h6
          have : S k = false := hSi
          have hSk' : S k = true := hSk
          rw [this] at hSk'; cases hSk'
        · have := hat.after k s' hk h6; omega
    · intro id
      unfold given
      constructor
      · rintro (h1 | ⟨k, s', hk, hSk, h4⟩)
        · exact .inl (.inl h1)
        · by_cases hki : k = i
          · subst hki
            rw [hs] at hk; cases hk
            exact .inr h4
          · exact .inl (.inr ⟨k, s', hk, (hS1 k hki).symm.trans hSk, h4⟩)
      · rintro ((h1 | ⟨k, s', hk, hSk, h4⟩) | h1)
        · exact .inl h1
        · have hki : k ≠ i := by
            rintro rfl
            have : S k = false := hSi
            have hSk' : S k = true := hSk
            rw [this] at hSk'; cases hSk'
          exact .inr ⟨k, s', hk, (hS1 k hki).trans hSk, h4⟩
        · exact .inr ⟨i, s, hs, hS1i, h1⟩
    · intro a' w' ρ' T' h1
      refine ih (listed.setIfInBounds i true) a' w' (by simpa using hsz) ?_ ?_ ⟨ρ', T', ?_⟩
      · have h2 : listed.toList[i]? = some false := by
          rw [Array.getElem?_toList]
          rw [Array.getD_eq_getD_getElem?, Array.getElem?_eq_getElem (by omega)] at hSi
          rw [Array.getElem?_eq_getElem (by omega)]
          simpa using hSi
        have := count_set _ _ h2
        rw [Array.toList_setIfInBounds]
        omega
      · intro j o' hj hSj e he hb
        by_cases hji : j = i
        · subst hji
          rw [ho] at hj; cases hj
          have := hedges e he hb
          by_cases heq : e.on = j
          · rw [heq]; exact hS1i
          · have h9 := hS1 e.on heq
            show S1 e.on = true
            rw [h9]; exact this
        · have h8 : S j = true := by rw [← hS1 j hji]; exact hSj
          have := hdown j o' hj h8 e he hb
          by_cases heq : e.on = i
          · rw [heq]; exact hS1i
          · show S1 e.on = true
            rw [hS1 e.on heq]; exact this
      · have e1 : foldG pT S1 0 l (get st0.tmps) = upd (foldG pT S 0 l (get st0.tmps)) s.o.dst s.v := by
          rw [upd_pT]
          funext t
          refine foldG_ins hs hS1 hS1i hSi fun hp k s' hk hlt hp' => ?_
          have := hT t k s' hk (pT_some.1 hp') (.inr (pT_some.1 hp))
          rw [this]; simp; omega
        have e2 : foldG pS S1 0 l (look st0.store) = updS (foldG pS S 0 l (look st0.store)) s.u := by
          rw [updS_pS]
          funext id
          refine foldG_ins hs hS1 hS1i hSi fun hp k s' hk hlt hp' => ?_
          have := hS' id k s' hk (hkw k s' id hk hp') (.inr (hkw i s id hs hp))
          rw [this]; simp; omega
        rw [e1, e2]
        exact h1

end
end Go.Se

/- A range over a function. -/
namespace Go.Se
variable {P : Program}

theorem get_someT (ts : List Nat) : ∀ (l : Tmps) (t : Nat), get (someT l ts) t = get l t ∨ get (someT l ts) t = .junk
  | [], t => .inl rfl
  | (u, v) :: l, t => by
    simp only [someT]
    cases ts.any (Nat.beq u) with
    | true =>
      simp only [cond_true, get]
      cases Nat.beq u t with
      | true => exact .inl rfl
      | false => exact get_someT ts l t
    | false =>
      simp only [cond_false, get]
      cases Nat.beq u t with
      | true => exact .inr rfl
      | false => exact get_someT ts l t

/-- The block of a record is no longer told of: the record may turn. -/
theorem Holds.drop {B : Base P} {tm : Nat → SV} {s : Store} {A : Nat → Prop} {Ds : List Nat} {nt : Nat} {a : Act} {w w' : World} {ρ : Names} {T : Nat → Prop} {id l : Nat}
    (h : Holds B tm (look s) A Ds nt a w ρ T) (hid : (look s id).isSome) (hl : ρ id = some l) (hp : Put l w w') (hD : B.w.heap.size ≤ l) (hT : T l) : Holds B tm (look ((id, none) :: s)) A Ds nt a w' ρ T := by
  have hlook : ∀ j, look ((id, none) :: s) j = if j = id then none else look s j := fun j => by
    simp only [look]
    by_cases hj : j = id
    · subst hj; simp
    · rw [if_neg hj, show Nat.beq id j = false by rw [Bool.eq_false_iff]; intro e; exact hj (Nat.eq_of_beq_eq_true e).symm]; rfl
  have hsome : ∀ j, (look ((id, none) :: s) j).isSome → j ≠ id ∧ (look s j).isSome := fun j hj => by
    rw [hlook] at hj
    by_cases e : j = id
    · rw [if_pos e] at hj; cases hj
    · rw [if_neg e] at hj; exact ⟨e, hj⟩
  have hnone : ∀ j, look s j = none → look ((id, none) :: s) j = none := fun j hj => by
    rw [hlook]
    by_cases e : j = id
    · rw [if_pos e]
    · rw [if_neg e]; exact hj
  exact {
    defers := by
      obtain ⟨M, h1, h2, h3⟩ := h.defers
      refine ⟨M, h1, h2, fun D hM => ?_⟩
      obtain ⟨k1, k2, k3⟩ := h3 D hM
      exact ⟨k1, k2, by rw [hp.same D (by rintro rfl; exact k2 hT)]; exact k3⟩
    size := h.size
    tmps := fun t => rel_put hp _ _ (h.tmps t)
    store := fun j sb hj => by
      obtain ⟨k1, k2⟩ := hsome j (by rw [hj]; rfl)
      rw [hlook, if_neg k1] at hj
      obtain ⟨h1, b, h2, h3, h4⟩ := h.store j sb hj
      exact ⟨h1, b, h2, h3, relB_put hp (by rintro rfl; exact k1 (h.inj j id b k2 hid h2 hl)) h4⟩
    names := fun j b hj => by rw [hp.size]; exact h.names j b hj
    inj := fun i j b hi hj => h.inj i j b (hsome i hi).2 (hsome j hj).2
    base := h.base
    full := h.full
    grow := h.grow.trans (Grow.turn hp) fun b hb e => by omega
    old := h.old
    tback := h.tback
    tkeep := fun b hb hT => (h.tkeep b hb hT).imp (fun x => x) fun ⟨q, q1, q2, q3, q4⟩ => ⟨q, q1, q2, hnone q q3, q4⟩
    fresh := fun j b h1 h2 h3 => (h.fresh j b (hsome j h1).2 h2 h3).imp (fun x => x) fun ⟨q, q1, q2, q3, q4⟩ => ⟨q, q1, q2, hnone q q3, q4⟩
    inv := fun g v hg => ⟨(h.inv g v hg).1, hp.cell (h.inv g v hg).2⟩ }

/-- The exit that a record bears. -/
def pendExit : Pd → Exit
  | .ready => .normal
  | .busy => .normal
  | .left .normal => .normal
  | .left (.exit id) => .exit id
  | .left .ret => .ret

/-- Two blocks laid: that for deferred calls, and the record. -/
def loopW (w : World) (fn : FuncId) (a : Act) (ps : Array Tmp) (assign body : Code) : World :=
  (w.alloc (.deferred (some []))).alloc (.loop { state := .ready, pending := none, fn, tmps := a.tmps, params := ps, assign, body, defers := w.heap.size })
theorem loopW_size {w : World} {fn : FuncId} {a : Act} {ps : Array Tmp} {assign body : Code} : (loopW w fn a ps assign body).heap.size = w.heap.size + 2 := by
  simp [loopW, World.size_alloc]
theorem loopW_old {w : World} {fn : FuncId} {a : Act} {ps : Array Tmp} {assign body : Code} {b : Nat} (h : b < w.heap.size) : (loopW w fn a ps assign body).heap[b]? = w.heap[b]? := by
  show ((w.heap.push _).push _)[b]? = _
  rw [Array.getElem?_push_lt (by simp; omega), Array.getElem_push_lt (by omega), Array.getElem?_eq_getElem h]
theorem loopW_def {w : World} {fn : FuncId} {a : Act} {ps : Array Tmp} {assign body : Code} : (loopW w fn a ps assign body).heap[w.heap.size]? = some (.deferred (some [])) := by
  show ((w.heap.push _).push _)[w.heap.size]? = _
  rw [Array.getElem?_push_lt (by simp), Array.getElem_push_eq]
theorem loopW_rec {w : World} {fn : FuncId} {a : Act} {ps : Array Tmp} {assign body : Code} : (loopW w fn a ps assign body).heap[w.heap.size + 1]? = some (.loop { state := .ready, pending := none, fn, tmps := a.tmps, params := ps, assign, body, defers := w.heap.size }) := by
  show ((w.heap.push _).push _)[w.heap.size + 1]? = _
  have : (w.heap.push (Obj.deferred (some []))).size = w.heap.size + 1 := by simp
  rw [← this, Array.getElem?_push_size]
theorem loopW_grow {w : World} {fn : FuncId} {a : Act} {ps : Array Tmp} {assign body : Code} (T : Nat → Prop) : Grow T w (loopW w fn a ps assign body) where
  size := by rw [loopW_size]; omega
  same := fun b hb _ => loopW_old hb
  shape := fun b vs e f hb => ⟨vs, f, by rw [loopW_old (Array.getElem?_eq_some_iff.1 hb).1]; exact hb, rfl⟩
  os := rfl
  output := rfl
  tape := rfl

theorem range_ok {env : Env} (he : EnvOK2 P env) {g : Operand} {ps : Array Tmp} {assign body : Code} {st : St} {k : FuncId} {first cap : List SV} {ts : List Nat} (hg : eval st.tmps g = .fn (.func k) first cap)
    (hft : noBody env k = false) {K : KV}
    (h : callE env { st with store := (st.nxt, some (.loop (someT st.tmps ts) st.nt ps.toList assign body .ready)) :: st.store, nxt := st.nxt + 1 } k (first ++ [.yld st.nxt] ++ cap) K) :
    ∃ v u n rd wr, K v u n rd wr ∧ ∀ (F : Fence) (m : Nat), Wd F → F.round = none → ∀ (B : Base P) (a : Act) (w : World), Now B st a w → ∀ (tm' : Tmps) (nt' : Nat) (ps' : List Nat) (as' bd' : Code) (pend : Pd),
      look (u ++ (st.nxt, some (.loop (someT st.tmps ts) st.nt ps.toList assign body .ready)) :: st.store) st.nxt = some (.loop tm' nt' ps' as' bd' pend) → pend ≠ .busy → ∀ Q : Exit → Act → World → Prop,
      (∀ a' w', Now B ⟨st.tmps, (st.nxt, none) :: (u ++ (st.nxt, some (.loop (someT st.tmps ts) st.nt ps.toList assign body .ready)) :: st.store), n, addTo st.dirty wr, st.nt⟩ a' w' → Q (pendExit pend) a' w') →
      (Code.rangeFunc g ps assign body).wpIn F m P Q a w := by
  generalize hs1 : ({ st with store := (st.nxt, some (.loop (someT st.tmps ts) st.nt ps.toList assign body .ready)) :: st.store, nxt := st.nxt + 1 } : St) = s1 at h
  have e_nxt : s1.nxt = st.nxt + 1 := by rw [← hs1]
  have e_store : s1.store = (st.nxt, some (.loop (someT st.tmps ts) st.nt ps.toList assign body .ready)) :: st.store := by rw [← hs1]
  unfold callE at h
  generalize hxs : first ++ [.yld st.nxt] ++ cap = xs at h
  simp only at h
  generalize hF : reach s1.store 200 (ids.idsL xs) [] = R at h
  obtain ⟨v, σ', d, hK, hok⟩ := he.callee _ _ _ _ h
  obtain ⟨q1, q2, q3, q4, q5⟩ := reach_done (P := P) (st := s1) (v := v) (σ' := σ') (d := d) hF
  refine ⟨_, _, _, _, _, hK, fun F m hFw hro B a w hn tm' nt' ps' as' bd' pend hlk hpb Q hQ => ?_⟩
  obtain ⟨hB, ρ, T, hh⟩ := hn
  refine wpIn_rangeFunc fun fnid _ => ?_
  -- the function's value
  have hgv : ∃ a1 a2, a.eval g = .func (.func k) a1 a2 ∧ relL ρ T w first a1.toList ∧ relL ρ T w cap a2.toList := by
    have : rel ρ T w (eval st.tmps g) (a.eval g) := by
      refine eval_rel fun t ht => ?_
      subst ht
      exact hh.tmps t
    rw [hg] at this
    exact this
  obtain ⟨a1, a2, hge, hr1, hr2⟩ := hgv
  let l := w.heap.size + 1
  let w1 := loopW w fnid a ps assign body
  let ρ1 : Names := fun id => if id = st.nxt then some l else ρ id
  let T1 : Nat → Prop := fun c => (T c ∧ c < w.heap.size) ∨ c = l
  have hnone : ρ st.nxt = none := by
    cases hρ : ρ st.nxt with
    | none => rfl
    | some b => exact absurd (hh.names _ _ hρ).1 (Nat.lt_irrefl _)
  have hρ1 : ∀ id b, ρ id = some b → ρ1 id = some b := fun id b hid => by
    show (if _ then _ else _) = _
    rw [if_neg]; · exact hid
    rintro rfl; rw [hnone] at hid; cases hid
  have hG : Grow T w w1 := loopW_grow T
  have hT1 : ∀ b, b < w.heap.size → T1 b → T b := fun b hb ht => by
    rcases ht with ht | ht
    · exact ht.1
    · have : b = w.heap.size + 1 := ht; omega
  have hmono : ∀ (x : SV) (y : Value), rel ρ T w x y → rel ρ1 T1 w1 x y := rel_mono hρ1 hT1 hG
  have hdone : Done ρ T w st.nxt (st.nxt + 1) (.tup []) [(st.nxt, some (.loop (someT st.tmps ts) st.nt ps.toList assign body .ready))] [] ρ1 T1 w1 (.tuple #[]) := {
    names := hρ1
    only := fun id b hid => by
      by_cases e : id = st.nxt
      · exact .inr (by omega)
      · exact .inl (by have : (if id = st.nxt then some l else ρ id) = some b := hid; rw [if_neg e] at this; exact this)
    val := ⟨#[], rfl, rfl⟩
    turned := fun id sb hid => by
      simp only [List.mem_singleton, Prod.mk.injEq, Option.some.injEq] at hid
      obtain ⟨rfl, rfl⟩ := hid
      refine ⟨l, if_pos rfl, .inr rfl, _, loopW_rec, ⟨rfl, rfl⟩, rfl, rfl, rfl, hh.size, fun t => ?_⟩
      rcases get_someT ts st.tmps t with e | e
      · rw [e]; exact hmono _ _ (hh.tmps t)
      · rw [e]; exact trivial
    keys := fun id o hid => by
      simp only [List.mem_singleton, Prod.mk.injEq] at hid
      exact .inr (by omega)
    cover := fun id hid => by cases hid
    fresh := fun id b h1 h2 h3 => by
      have e : id = st.nxt := by omega
      subst e
      have : (some l : Option Nat) = some b := by rw [← h3]; exact (if_pos rfl).symm
      cases this
      exact .inl (by show w.heap.size ≤ w.heap.size + 1; omega)
    inj := fun i j b h1 h2 h3 h4 _ _ => by omega
    grow := (loopW_grow (fun _ => False)).mono fun _ _ h => h.elim
    tback := hT1
    below := fun id b h1 h2 h3 => by
      have e : id = st.nxt := by omega
      subst e
      have : (some l : Option Nat) = some b := by rw [← h3]; exact (if_pos rfl).symm
      cases this
      rw [loopW_size]; show w.heap.size + 1 < _; omega
    tkeep := fun b hb hT => .inl (.inl ⟨hT, hb⟩) }
  have hA : Holds B (get st.tmps) (look s1.store) (fun id => id < s1.nxt) st.dirty st.nt a w1 ρ1 T1 := by
    have := hh.done (dst := none) (D' := st.dirty) (A' := fun id => id < s1.nxt) hdone (fun _ h => by cases h) hB (fun id h1 _ h2 => by omega) (fun _ h => by cases h)
      (fun id x y hx hy => by
        simp only [List.mem_singleton, Prod.mk.injEq] at hx hy
        rw [hx.2, hy.2]) (fun _ h => h) (fun _ h => by cases h) (fun id => by rw [e_nxt]; show id < st.nxt + 1 ↔ id < st.nxt ∨ (st.nxt ≤ id ∧ id < st.nxt + 1); omega)
    have e1 : updS (look st.store) [(st.nxt, some (.loop (someT st.tmps ts) st.nt ps.toList assign body .ready))] = look s1.store := by
      funext id
      rw [e_store, ← look_updS]; rfl
    rw [e1] at this
    exact this
  -- with the mark
  let a' : Act := { a with defers := { target := .collected w.heap.size, args := #[] } :: a.defers }
  have hA' : Holds B (get st.tmps) (look s1.store) (fun id => id < s1.nxt) st.dirty st.nt a' w1 ρ1 T1 := {
    hA with
    defers := by
      obtain ⟨M, h1, h2, h3⟩ := hA.defers
      have hlt : ∀ D ∈ M, D < w.heap.size := fun D hD => by
        obtain ⟨M0, g1, g2, g3⟩ := hh.defers
        have hM : M = M0 := by
          have := h1.symm.trans g1
          have hinj := congrArg (List.map fun d : Deferred => match d.target with | .collected D => D | _ => 0) this
          simpa [Function.comp_def] using hinj
        subst hM
        obtain ⟨_, _, k3⟩ := g3 D hD
        exact (Array.getElem?_eq_some_iff.1 k3).1
      refine ⟨w.heap.size :: M, by show _ :: a.defers = _; rw [h1]; rfl, List.nodup_cons.2 ⟨fun hm => Nat.lt_irrefl _ (hlt _ hm), h2⟩, fun D hD => ?_⟩
      rcases List.mem_cons.1 hD with rfl | hD
      · refine ⟨hh.grow.size, fun ht => ?_, loopW_def⟩
        rcases ht with ht | ht
        · exact Nat.lt_irrefl _ ht.2
        · have : w.heap.size = w.heap.size + 1 := ht; omega
      · exact h3 D hD
    size := hA.size }
  have hlow : Low P ρ1 T1 w1 := ⟨fun id b hid => (hA.names id b hid).2, hA.inv⟩
  obtain ⟨p1, p2, p3, p4, p5⟩ := q5 ρ1 T1 w1
    (fun id hid => by
      obtain ⟨sb, hsb⟩ := q2 id hid
      obtain ⟨_, b, h2, h3, h4⟩ := hA.store id sb hsb
      exact ⟨sb, b, hsb, h2, h3, h4⟩)
    (fun i j b hi hj h1 h2 => by
      obtain ⟨si, hsi⟩ := q2 i hi
      obtain ⟨sj, hsj⟩ := q2 j hj
      exact hA.inj i j b (by rw [hsi]; rfl) (by rw [hsj]; rfl) h1 h2)
    hlow
    (fun id h1 _ => by
      cases hρ : ρ1 id with
      | none => rfl
      | some b => exact absurd (hA.names id b hρ).1 (by omega))
  have hargs : relL ρ1 T1 w1 xs (a1 ++ #[Value.func (.yield l) #[] #[]] ++ a2).toList := by
    rw [← hxs, Array.toList_append, Array.toList_append]
    have lmono : ∀ (x : List SV) (y : List Value), relL ρ T w x y → relL ρ1 T1 w1 x y := relL_mono hρ1 hT1 hG
    refine relL_append (relL_append (lmono _ _ hr1) ?_) (lmono _ _ hr2)
    exact ⟨_, [], rfl, ⟨l, if_pos rfl, rfl⟩, rfl⟩
  have hruns := hok (fun p => (R[p]?).bind ρ1) T1 w1 (a1 ++ #[Value.func (.yield l) #[] #[]] ++ a2) (relL_ren p1 _ _ hargs) p2 p3 p4
  unfold noBody at hft
  cases hfk : env.ft k with
  | none => rw [hfk] at hft; cases hft
  | some fn0 =>
  rw [hfk] at hft
  obtain ⟨hfn0, hname0⟩ := he.ft k fn0 hfk
  have hcf : ∀ vals : Array Value, (callFunc k vals).run P w1 = .ok (.enter k vals) w1 := fun vals => by
    simp only [callFunc, Sem.run_bind, run_program, Result.andThen_ok, hfn0, hname0, Bool.false_eq_true, if_false, show fn0.body.isNone = false from hft, Sem.run_pure]
  have hcalls : Calls P k (a1 ++ #[Value.func (.yield l) #[] #[]] ++ a2) w1 fun e w' => ∃ x, e = .returned x ∧ ∃ ρ' T', CallDone (fun p => (R[p]?).bind ρ1) T1 w1 (R.map fun i => (look s1.store i).map (renB fun i => idx R i 0)) v σ' d ρ' T' w' x := by
    rcases hruns with ⟨fn, hfn, hbody, hname, hc⟩ | ⟨x, w', hrun, hR⟩
    · exact hc
    · rw [hcf] at hrun; cases hrun
  refine ⟨l, [{ target := .collected w.heap.size, args := #[] }], w1, { target := .fn (.func k) a2, args := a1 ++ #[Value.func (.yield l) #[] #[]] }, w1, k, a1 ++ #[Value.func (.yield l) #[] #[]] ++ a2, w1, ?_, ?_, fun f' _ => hFw.fn f', ?_, fun hd => (by rw [hFw.depth] at hd; cases hd), hFw.calls (hcalls.mono fun e w3 he3 => ?_)⟩
  · rw [hro]; exact run_enterLoop_outer fnid a.tmps ps assign body
  · have hm : #[Operand.const (Value.func (.yield l) #[] #[])].map a.eval = #[Value.func (.yield l) #[] #[]] := by simp [Act.eval]
    simp only [resolve, hge, Deferred.ofValue, hm]; rfl
  · exact hcf _
  obtain ⟨x, rfl, hx⟩ := he3
  obtain ⟨ρ2, T2, hd2⟩ := p5 x w3 hx
  have hB1 : B.n ≤ s1.nxt := by omega
  have hH := hA'.done (dst := none) (D' := addTo st.dirty (d.filterMap fun p => R[p]?)) (A' := fun id => id < s1.nxt + (σ'.length - R.length)) hd2 (fun _ h => by cases h) hB1 (fun id h1 _ h2 => by omega)
    (fun id hid => by obtain ⟨sb, hsb⟩ := q2 id (.inr hid); rw [hsb]; rfl) (q3 fun id sb hsb => (hA.store id sb hsb).1)
    (fun p hp => (mem_addTo _ _ _).2 (.inl hp)) (fun p hp => (mem_addTo _ _ _).2 (.inr hp)) (fun id => by show id < s1.nxt + _ ↔ id < s1.nxt ∨ (s1.nxt ≤ id ∧ id < s1.nxt + _); omega)
  have e2 : updS (look s1.store) (backStore (backName R s1.nxt) R s1.nxt d 0 σ') = look (backStore (backName R s1.nxt) R s1.nxt d 0 σ' ++ s1.store) := by
    funext id; rw [look_updS]
  rw [e2] at hH
  rw [← e_store] at hlk hQ
  have hl2 : ρ2 st.nxt = some l := hd2.names _ _ (if_pos rfl)
  obtain ⟨_, b, hb1, hb2, r, hb3, hb4, _⟩ := hH.store st.nxt _ hlk
  rw [hl2] at hb1; cases hb1
  have hbusy : r.state ≠ .busy := fun e => by
    rw [e] at hb4
    rcases pend with _ | _ | (_ | _ | _)
    · exact absurd hb4.1 (by decide)
    · exact hpb rfl
    · exact hb4
    · exact absurd hb4.1 (by decide)
    · exact absurd hb4.1 (by decide)
  refine ⟨r.pending, _, run_endLoop hb3 hbusy, ?_⟩
  have hput := put_putObj (o' := .loop { r with state := .exhausted }) hb3 (fun _ _ _ e => by cases e)
  have hN := hH.drop (by rw [hlk]; rfl) hl2 hput (Nat.le_trans hh.grow.size (Nat.le_succ _)) hb2
  have hNow : Now B ⟨st.tmps, (st.nxt, none) :: (backStore (backName R s1.nxt) R s1.nxt d 0 σ' ++ s1.store), s1.nxt + (σ'.length - R.length), addTo st.dirty (d.filterMap fun p => R[p]?), st.nt⟩ a' (w3.putObj l (.loop { r with state := .exhausted })) :=
    ⟨Nat.le_trans hB1 (Nat.le_add_right _ _), ρ2, T2, hN⟩
  have hfin := hQ a' _ hNow
  rcases pend with _ | _ | (_ | id | _)
  · have hp : r.pending = none := hb4.2
    rw [hp] at hfin ⊢; exact hfin
  · exact absurd rfl hpb
  · exact hb4.elim
  · have hp : r.pending = some (.exit id) := hb4.2
    rw [hp] at hfin ⊢; exact wpIn_exit hfin
  · have hp : r.pending = some .ret := hb4.2
    rw [hp] at hfin ⊢; exact wpIn_ret hfin

/-- The block of a record, told anew: the record may turn. -/
theorem Holds.turnRec {B : Base P} {tm : Nat → SV} {s : Store} {A : Nat → Prop} {Ds Ds' : List Nat} {nt : Nat} {a : Act} {w w' : World} {ρ : Names} {T : Nat → Prop} {id l : Nat} {sb : SB}
    (h : Holds B tm (look s) A Ds nt a w ρ T) (hid : (look s id).isSome) (hl : ρ id = some l) (hp : Put l w w') (hT : T l) (hsb : relB ρ T w' sb l) (hn : id < B.n) (hD : ∀ p, p ∈ Ds → p ∈ Ds') (hDi : id ∈ Ds') :
    Holds B tm (look ((id, some sb) :: s)) A Ds' nt a w' ρ T := by
  have hlook : ∀ j, look ((id, some sb) :: s) j = if j = id then some sb else look s j := fun j => by
    simp only [look]
    by_cases hj : j = id
    · subst hj; simp
    · rw [if_neg hj, show Nat.beq id j = false by rw [Bool.eq_false_iff]; intro e; exact hj (Nat.eq_of_beq_eq_true e).symm]; rfl
  have hsome : ∀ j, (look ((id, some sb) :: s) j).isSome → (look s j).isSome := fun j hj => by
    rw [hlook] at hj
    by_cases e : j = id
    · rw [e]; exact hid
    · rw [if_neg e] at hj; exact hj
  have hnone : ∀ j, look s j = none → look ((id, some sb) :: s) j = none := fun j hj => by
    rw [hlook]
    by_cases e : j = id
    · subst e; rw [hj] at hid; cases hid
    · rw [if_neg e]; exact hj
  have hbase : B.ρ id = some l := by
    obtain ⟨b, hb⟩ := h.full id hn
    have := (h.old id b hb).2
    rw [hl] at this; cases this
    exact hb
  exact {
    defers := by
      obtain ⟨M, h1, h2, h3⟩ := h.defers
      refine ⟨M, h1, h2, fun D hM => ?_⟩
      obtain ⟨k1, k2, k3⟩ := h3 D hM
      exact ⟨k1, k2, by rw [hp.same D (by rintro rfl; exact k2 hT)]; exact k3⟩
    size := h.size
    tmps := fun t => rel_put hp _ _ (h.tmps t)
    store := fun j sb' hj => by
      rw [hlook] at hj
      by_cases e : j = id
      · rw [if_pos e] at hj
        cases hj
        subst e
        obtain ⟨sb0, hsb0⟩ := Option.isSome_iff_exists.1 hid
        exact ⟨(h.store _ sb0 hsb0).1, l, hl, hT, hsb⟩
      · rw [if_neg e] at hj
        obtain ⟨h1, b, h2, h3, h4⟩ := h.store j sb' hj
        exact ⟨h1, b, h2, h3, relB_put hp (by rintro rfl; exact e (h.inj j id b (by rw [hj]; rfl) hid h2 hl)) h4⟩
    names := fun j b hj => by rw [hp.size]; exact h.names j b hj
    inj := fun i j b hi hj => h.inj i j b (hsome i hi) (hsome j hj)
    base := h.base
    full := h.full
    grow := (h.grow.mono fun b _ ⟨p, h1, h2⟩ => ⟨p, hD p h1, h2⟩).trans (Grow.turn hp) fun b _ e => ⟨id, hDi, hn, by rw [e]; exact hbase⟩
    old := h.old
    tback := h.tback
    tkeep := fun b hb hT => (h.tkeep b hb hT).imp (fun x => x) fun ⟨q, q1, q2, q3, q4⟩ => ⟨q, hD q q1, q2, hnone q q3, q4⟩
    fresh := fun j b h1 h2 h3 => (h.fresh j b (hsome j h1) h2 h3).imp (fun x => x) fun ⟨q, q1, q2, q3, q4⟩ => ⟨q, hD q q1, q2, hnone q q3, q4⟩
    inv := fun g v hg => ⟨(h.inv g v hg).1, hp.cell (h.inv g v hg).2⟩ }

/-- Parameters, one after the other. -/
def zipF : List Nat → List SV → (Nat → SV) → Nat → SV
  | p :: ps, x :: xs, f => zipF ps xs fun t => if t = p then x else f t
  | _, _, f => f
theorem zipF_at : ∀ (ps : List Nat) (xs : List SV) (f g : Nat → SV) (t : Nat), f t = g t → zipF ps xs f t = zipF ps xs g t
  | [], _, _, _, _, h => h
  | _ :: _, [], _, _, _, h => h
  | p :: ps, x :: xs, f, g, t, h => zipF_at ps xs _ _ t (by by_cases e : t = p; rw [if_pos e, if_pos e]; rw [if_neg e, if_neg e]; exact h)
theorem zipF_not : ∀ (ps : List Nat) (xs : List SV) (f : Nat → SV) (t : Nat), t ∉ ps → zipF ps xs f t = f t
  | [], _, _, _, _ => rfl
  | _ :: _, [], _, _, _ => rfl
  | p :: ps, x :: xs, f, t, h => by
    show zipF ps xs _ t = _
    rw [zipF_not ps xs _ t (fun hm => h (List.mem_cons_of_mem _ hm)), if_neg (fun e => h (by rw [e]; exact List.mem_cons_self ..))]
theorem get_zipT {nt : Nat} : ∀ (ps : List Nat) (xs : List SV) (tm : Tmps) (t : Nat), goodPs nt ps = true → get (zipT ps xs ++ tm) t = zipF ps xs (get tm) t
  | [], _, _, _, _ => rfl
  | _ :: _, [], _, _, _ => rfl
  | p :: ps, x :: xs, tm, t, h => by
    simp only [goodPs, Bool.and_eq_true, Bool.not_eq_true'] at h
    obtain ⟨_, h2, h3⟩ := h
    show get ((p, x) :: (zipT ps xs ++ tm)) t = zipF ps xs _ t
    simp only [get]
    cases hb : Nat.beq p t with
    | true =>
      obtain rfl := Nat.eq_of_beq_eq_true hb
      have hm : p ∉ ps := fun hm => by rw [any_beq.2 hm] at h2; cases h2
      rw [zipF_not ps xs _ p hm, if_pos rfl]; rfl
    | false =>
      have hne : t ≠ p := by rintro rfl; rw [Nat.beq_refl] at hb; cases hb
      simp only [cond_false]
      rw [get_zipT ps xs tm t h3]
      exact zipF_at ps xs _ _ t (by rw [if_neg hne])
theorem zip_rel {ρ : Names} {T : Nat → Prop} {w : World} {nt : Nat} : ∀ (ps : List Nat) (xs : List SV) (vals : List Value) (f : Nat → SV) (base : Array Value), goodPs nt ps = true → base.size = nt → ps.length = xs.length → relL ρ T w xs vals →
    (∀ t, rel ρ T w (f t) (base.getD t undef)) → (((ps.zip vals).foldl (fun tmps (t, a) => tmps.setIfInBounds t a) base).size = nt ∧ ∀ t, rel ρ T w (zipF ps xs f t) (((ps.zip vals).foldl (fun tmps (t, a) => tmps.setIfInBounds t a) base).getD t undef))
  | [], xs, vals, f, base, _, hs, hl, hv, hb => by
    cases xs with
    | nil => exact ⟨hs, hb⟩
    | cons _ _ => cases hl
  | p :: ps, [], _, _, _, _, _, hl, _, _ => by cases hl
  | p :: ps, x :: xs, vals, f, base, hg, hs, hl, hv, hb => by
    obtain ⟨v, r, rfl, h1, h2⟩ := hv
    simp only [goodPs, Bool.and_eq_true, Bool.not_eq_true'] at hg
    obtain ⟨g1, _, g3⟩ := hg
    have g1 : p < nt := by simpa using g1
    refine zip_rel ps xs r (fun t => if t = p then x else f t) (base.setIfInBounds p v) g3 (by simpa using hs) (by simpa using hl) h2 fun t => ?_
    simp only [Array.getD_eq_getD_getElem?]
    by_cases e : t = p
    · subst e
      rw [if_pos rfl, Array.getElem?_setIfInBounds_self_of_lt (by omega)]
      exact h1
    · rw [if_neg e, Array.getElem?_setIfInBounds_ne (Ne.symm e)]
      have := hb t
      rwa [Array.getD_eq_getD_getElem?] at this
end Go.Se

/- Part 14: statements and functions. -/
namespace Go.Se
variable {P : Program}

theorem now_start {B : Base P} {st : St} {a : Act} {w : World} (h : Now B st a w) : Now B st a { w with drawn := w.drawn + 1 } := by
  obtain ⟨hB, ρ, T, h⟩ := h
  have hG : Grow (fun _ => False) w { w with drawn := w.drawn + 1 } := ⟨Nat.le_refl _, fun _ _ _ => rfl, fun b vs e f hb => ⟨vs, f, hb, rfl⟩, rfl, rfl, rfl⟩
  have hGT : Grow T w { w with drawn := w.drawn + 1 } := hG.mono fun _ _ h => h.elim
  refine ⟨hB, ρ, T, { h with
    tmps := fun t => rel_mono (fun _ _ h => h) (fun _ _ h => h) hGT _ _ (h.tmps t)
    store := fun id sb hid => by
      obtain ⟨h1, b, h2, h3, h4⟩ := h.store id sb hid
      exact ⟨h1, b, h2, h3, relB_mono (fun _ _ h => h) (fun _ _ h => h) hGT rfl h4⟩
    names := h.names
    grow := h.grow.trans hG fun _ _ h => h.elim }⟩

theorem now_lt {B : Base P} {st : St} {a : Act} {w : World} (h : Now B st a w) : ∀ id sb, look st.store id = some sb → id < st.nxt := by
  obtain ⟨_, ρ, T, h⟩ := h
  exact fun id sb hid => (h.store id sb hid).1

theorem now_same {B : Base P} {st st' : St} {a : Act} {w : World} (hs : Same st st') (h : Now B st a w) : Now B st' a w := by
  obtain ⟨hB, ρ, T, h⟩ := h
  have ht : get st.tmps = get st'.tmps := funext hs.tmps
  rw [ht, hs.store, hs.nxt, hs.dirty, hs.nt] at h
  exact ⟨by rw [← hs.nxt]; exact hB, ρ, T, h⟩

theorem dstsOk_elim {nt : Nat} {l : List Step} {ops : List Oper} (hl : l.map (·.o) = ops) (h : dstsOk nt ops = true) : ∀ s ∈ l, ∀ d, s.o.dst = some d → d < nt := by
  intro s hs d hd
  unfold dstsOk at h
  rw [List.all_eq_true] at h
  have := h s.o (by rw [← hl]; exact List.mem_map.2 ⟨s, hs, rfl⟩)
  rw [hd] at this
  simpa using this

theorem region_ok {env : Env} (he : EnvOK2 P env) (hmix : P.follows .mixedOrders = true) {id : Nat} {ops : Array Oper} {draw : Bool} {st : St} {K : St → Prop}
    (hdst : dstsOk st.nt ops.toList = true)
    (h : bif draw then (bif edgesOk 0 ops.toList then evalOps env ops.toList ops.toList 0 st [] fun s tr => If (fixedOrder (befores ops.toList []) tr) (K s) else False)
      else evalOps env ops.toList ops.toList 0 st [] fun s _ => K s) :
    ∃ st', K st' ∧ ∀ (B : Base P) (a : Act) (w : World), Now B st a w → ∀ (F : Fence) (n : Nat), Wd F → ∀ Q : Exit → Act → World → Prop, (∀ a' w', Now B st' a' w' → Q .normal a' w') → (Code.region id ops draw).wpIn F n P Q a w := by
  cases draw with
  | false =>
    simp only [cond_false] at h
    obtain ⟨l, st', hc, hl, hK⟩ := evalOps_chain he _ _ _ _ h
    refine ⟨st', hK, fun B a w hn F n hF Q hQ => ?_⟩
    refine wpIn_region ?_
    have := chain_text (n := n) hF hc 0 a w (fun j => by rw [hl, Nat.zero_add, Array.getElem?_toList]) hn (dstsOk_elim hl hdst) hQ
    have hlen : l.length = ops.size := by have := congrArg List.length hl; simpa using this
    rw [hlen, ← List.range_eq_range'] at this
    exact this
  | true =>
    simp only [cond_true] at h
    cases hedge : edgesOk 0 ops.toList with
    | false => rw [hedge] at h; exact h.elim
    | true =>
      rw [hedge] at h
      simp only [cond_true] at h
      obtain ⟨l, st', hc, hl, hK⟩ := evalOps_chain he _ _ _ _ h
      obtain ⟨hfix, hK⟩ := If.elim hK
      rw [List.append_nil] at hfix
      have hlen : l.length = ops.size := by have := congrArg List.length hl; simpa using this
      refine ⟨st', hK, fun B a w hn F n hF Q hQ => ?_⟩
      refine wpIn_region_any hmix ?_
      have hn' := now_start hn
      obtain ⟨hB, ρ, T, hh⟩ := hn'
      refine chain_any hc hl hfix hedge (dstsOk_elim hl hdst) hQ hB (now_lt hn) hF ops.size _ a _ (by simp) ?_ ?_ ⟨ρ, T, ?_⟩
      · simp
      · intro j o _ hj
        exfalso
        rw [Array.getD_eq_getD_getElem?] at hj
        by_cases hlt : j < ops.size
        · simp [hlt] at hj
        · simp [hlt] at hj
      · have hno : ∀ k, (Array.replicate ops.size false).getD k false = false := by
          intro k
          rw [Array.getD_eq_getD_getElem?]
          by_cases hlt : k < ops.size <;> simp [hlt]
        have hends := chain_ends hc 0
        rw [foldG_none _ _ _ _ _ (fun k _ => hno k), foldG_none _ _ _ _ _ (fun k _ => hno k)]
        have hg : given st l (fun k => (Array.replicate ops.size false).getD k false) = fun id => id < st.nxt := by
          funext id
          apply propext
          unfold given
          constructor
          · rintro (h | ⟨k, s, _, h2, _⟩)
            · exact h
            · simp only [hno] at h2; cases h2
          · exact fun h => .inl h
        rw [hg]
        -- the greater list of what may have been turned
        exact { hh with
          grow := hh.grow.mono fun b _ ⟨p, h1, h2⟩ => ⟨p, hends.dirty p h1, h2⟩
          tkeep := fun b hb hT => (hh.tkeep b hb hT).imp (fun h => h) fun ⟨q, h1, h2⟩ => ⟨q, hends.dirty q h1, h2⟩
          fresh := fun id b h1 h2 h3 => (hh.fresh id b h1 h2 h3).imp (fun h => h) fun ⟨q, h4, h5⟩ => ⟨q, hends.dirty q h4, h5⟩ }

/-- How an end is told. -/
def exOf : Ex → Exit
  | .normal => .normal
  | .exit id => .exit id
  | .ret => .ret

/-- To tell less. -/
def Weaker (P : Program) (n0 : Nat) (W : Nat → St → Option St) : Prop := ∀ blk st st', W blk st = some st' → ∀ (B : Base P) (a : Act) (w : World), B.n = n0 → Now B st a w → Now B st' a w

/-- Text that comes from one state to another. -/
def Goes (P : Program) (rnd : Bool) (n0 : Nat) (c : Code) (st : St) (x : Ex) (st' : St) : Prop :=
  ∀ (F : Fence) (m : Nat), Wd F → (rnd = false → F.round = none) → ∀ (B : Base P) (a : Act) (w : World), B.n = n0 → Now B st a w → c.wpIn F m P (fun e a' w' => e = exOf x ∧ Now B st' a' w') a w

theorem iter_ok {rnd : Bool} {n0 : Nat} {c : Code} {E : (Ex → St → Prop) → St → Prop}
    (hE : ∀ (K : Ex → St → Prop) (st : St), E K st → ∃ x st', K x st' ∧ Goes P rnd n0 c st x st') {K : Ex → St → Prop} :
    ∀ (n : Nat) (st : St), iter E K n st → ∃ x st', x ≠ .normal ∧ K x st' ∧
      ∀ (F : Fence) (m : Nat), Wd F → (rnd = false → F.round = none) → ∀ (B : Base P) (a : Act) (w : World), B.n = n0 → Now B st a w → Code.roundsIn F m P c (fun e a' w' => e = exOf x ∧ Now B st' a' w') n a w
  | 0, st, h => h.elim
  | n + 1, st, h => by
    obtain ⟨x, st', hx, hgo⟩ := hE _ st h
    cases x with
    | normal =>
      obtain ⟨y, st2, h1, h2, h3⟩ := iter_ok hE n st' hx
      refine ⟨y, st2, h1, h2, fun F m hF hr B a w hB hn => ?_⟩
      rw [roundsIn_succ]
      refine wpIn_mono (hgo F m hF hr B a w hB hn) ?_
      rintro e a' w' ⟨rfl, hn'⟩
      exact h3 F m hF hr B a' w' hB hn'
    | exit id =>
      refine ⟨.exit id, st', by simp, hx, fun F m hF hr B a w hB hn => ?_⟩
      rw [roundsIn_succ]
      refine wpIn_mono (hgo F m hF hr B a w hB hn) ?_
      rintro e a' w' ⟨rfl, hn'⟩
      exact ⟨rfl, hn'⟩
    | ret =>
      refine ⟨.ret, st', by simp, hx, fun F m hF hr B a w hB hn => ?_⟩
      rw [roundsIn_succ]
      refine wpIn_mono (hgo F m hF hr B a w hB hn) ?_
      rintro e a' w' ⟨rfl, hn'⟩
      exact ⟨rfl, hn'⟩

theorem wk_elim {f : St → Option St} {K : St → Prop} {s : St} (h : wk f K s) : ∃ s', f s = some s' ∧ K s' := by
  unfold wk at h
  split at h
  · rename_i s' hs; exact ⟨s', hs, h⟩
  · exact h.elim

theorem evalCode_ok {env : Env} (he : EnvOK2 P env) (hmix : P.follows .mixedOrders = true) {W : Nat → St → Option St} {n0 : Nat} (hW : Weaker P n0 W) :
    ∀ (c : Code) (blk : Nat) (K : Ex → St → Prop) (st : St), evalCode env W blk c K st → ∃ x st', K x st' ∧ Goes P env.rnd n0 c st x st'
  | .skip, blk, K, st, h => ⟨.normal, st, h, fun F m hF hr B a w hB hn => wpIn_skip ⟨rfl, hn⟩⟩
  | .seq c d, blk, K, st, h => by
    obtain ⟨x, st1, hx, hgo⟩ := evalCode_ok he hmix hW c blk _ st h
    cases x with
    | normal =>
      obtain ⟨y, st2, hy, hgo2⟩ := evalCode_ok he hmix hW d blk K st1 hx
      refine ⟨y, st2, hy, fun F m hF hr B a w hB hn => wpIn_seq (wpIn_mono (hgo F m hF hr B a w hB hn) ?_)⟩
      rintro e a' w' ⟨rfl, hn'⟩
      exact hgo2 F m hF hr B a' w' hB hn'
    | exit id =>
      refine ⟨.exit id, st1, hx, fun F m hF hr B a w hB hn => wpIn_seq (wpIn_mono (hgo F m hF hr B a w hB hn) ?_)⟩
      rintro e a' w' ⟨rfl, hn'⟩
      exact ⟨rfl, hn'⟩
    | ret =>
      refine ⟨.ret, st1, hx, fun F m hF hr B a w hB hn => wpIn_seq (wpIn_mono (hgo F m hF hr B a w hB hn) ?_)⟩
      rintro e a' w' ⟨rfl, hn'⟩
      exact ⟨rfl, hn'⟩
  | .cond o c d, blk, K, st, h => by
    simp only [evalCode] at h
    split at h
    · rename_i t
      split at h
      · rename_i b hb
        have hv : ∀ (B : Base P) (a : Act) (w : World), Now B st a w → a.eval (.tmp t) = .bool b := by
          rintro B a w ⟨_, ρ, T, hh⟩
          have := hh.tmps t
          rw [hb] at this
          exact this
        rcases Br.elim h with ⟨rfl, h⟩ | ⟨rfl, h⟩
        · obtain ⟨x, st', hx, hgo⟩ := evalCode_ok he hmix hW c blk K _ h
          exact ⟨x, st', hx, fun F m hF hr B a w hB hn => wpIn_cond_true (hv B a w hn) (hgo F m hF hr B a w hB (now_same (same_setKey hb) hn))⟩
        · obtain ⟨x, st', hx, hgo⟩ := evalCode_ok he hmix hW d blk K _ h
          exact ⟨x, st', hx, fun F m hF hr B a w hB hn => wpIn_cond_false (hv B a w hn) (hgo F m hF hr B a w hB (now_same (same_setKey hb) hn))⟩
      · exact h.elim
    · obtain ⟨x, st', hx, hgo⟩ := evalCode_ok he hmix hW c blk K _ h
      exact ⟨x, st', hx, fun F m hF hr B a w hB hn => wpIn_cond_true rfl (hgo F m hF hr B a w hB hn)⟩
    · obtain ⟨x, st', hx, hgo⟩ := evalCode_ok he hmix hW d blk K _ h
      exact ⟨x, st', hx, fun F m hF hr B a w hB hn => wpIn_cond_false rfl (hgo F m hF hr B a w hB hn)⟩
    · exact h.elim
  | .block id c, blk, K, st, h => by
    obtain ⟨x, st', hx, hgo⟩ := evalCode_ok he hmix hW c id _ st h
    cases x with
    | normal =>
      refine ⟨.normal, st', hx, fun F m hF hr B a w hB hn => wpIn_block (wpIn_mono (hgo F m hF hr B a w hB hn) ?_)⟩
      rintro e a' w' ⟨rfl, hn'⟩
      exact ⟨rfl, hn'⟩
    | exit i =>
      simp only at hx
      cases hb : Nat.beq i id with
      | true =>
        rw [hb] at hx
        refine ⟨.normal, st', hx, fun F m hF hr B a w hB hn => wpIn_block (wpIn_mono (hgo F m hF hr B a w hB hn) ?_)⟩
        rintro e a' w' ⟨rfl, hn'⟩
        simp only [exOf, Exit.inBlock, if_pos (Nat.eq_of_beq_eq_true hb)]
        exact ⟨trivial, hn'⟩
      | false =>
        rw [hb] at hx
        refine ⟨.exit i, st', hx, fun F m hF hr B a w hB hn => wpIn_block (wpIn_mono (hgo F m hF hr B a w hB hn) ?_)⟩
        rintro e a' w' ⟨rfl, hn'⟩
        have hne : i ≠ id := by rintro rfl; rw [Nat.beq_refl] at hb; cases hb
        simp only [exOf, Exit.inBlock, if_neg hne]
        exact ⟨trivial, hn'⟩
    | ret =>
      refine ⟨.ret, st', hx, fun F m hF hr B a w hB hn => wpIn_block (wpIn_mono (hgo F m hF hr B a w hB hn) ?_)⟩
      rintro e a' w' ⟨rfl, hn'⟩
      exact ⟨rfl, hn'⟩
  | .loop c, blk, K, st, h => by
    simp only [evalCode] at h
    have done : ∀ (n : Nat) (E : (Ex → St → Prop) → St → Prop) (st : St),
        (∀ (K : Ex → St → Prop) (st : St), E K st → ∃ x st', K x st' ∧ Goes P env.rnd n0 c st x st') →
        iter E K n st → ∃ x st', K x st' ∧ Goes P env.rnd n0 (.loop c) st x st' := by
      intro n E st hE hi
      obtain ⟨x, st', _, hx, hr2⟩ := iter_ok hE n st hi
      exact ⟨x, st', hx, fun F m hF hr B a w hB hn => wpIn_loop_rounds n (hr2 F m hF hr B a w hB hn)⟩
    split at h
    · obtain ⟨n, h⟩ := h
      obtain ⟨s', hw, h⟩ := wk_elim h
      obtain ⟨x, st', hx, hgo⟩ := done n _ s' (fun K st h => by
        obtain ⟨x, st1, hx, hgo⟩ := evalCode_ok he hmix hW c blk (fun e => wk (W blk) (K e)) st h
        obtain ⟨st2, hw, hx⟩ := wk_elim hx
        exact ⟨x, st2, hx, fun F m hF hr B a w hB hn => wpIn_mono (hgo F m hF hr B a w hB hn) fun e a' w' ⟨h1, h2⟩ => ⟨h1, hW _ _ _ hw B a' w' hB h2⟩⟩) h
      exact ⟨x, st', hx, fun F m hF hr B a w hB hn => hgo F m hF hr B a w hB (hW _ _ _ hw B a w hB hn)⟩
    · exact done _ _ _ (fun K st h => evalCode_ok he hmix hW c blk K st h) h
  | .exit id, blk, K, st, h => ⟨.exit id, st, h, fun F m hF hr B a w hB hn => wpIn_exit ⟨rfl, hn⟩⟩
  | .ret, blk, K, st, h => ⟨.ret, st, h, fun F m hF hr B a w hB hn => wpIn_ret ⟨rfl, hn⟩⟩
  | .region id ops draw, blk, K, st, h => by
    simp only [evalCode] at h
    cases hd : dstsOk st.nt ops.toList with
    | false => rw [hd] at h; exact h.elim
    | true =>
      rw [hd] at h
      simp only [cond_true] at h
      cases hcut : env.cut id with
      | false =>
        rw [hcut] at h
        obtain ⟨st', hK, hgo⟩ := region_ok he hmix (id := id) hd (K := K .normal) h
        exact ⟨.normal, st', hK, fun F m hF hr B a w hB hn => hgo B a w hn F m hF _ fun a' w' hn' => ⟨rfl, hn'⟩⟩
      | true =>
        rw [hcut] at h
        obtain ⟨s', hw, h⟩ := wk_elim h
        obtain ⟨hs', h⟩ := If.elim h
        obtain ⟨st', hK, hgo⟩ := region_ok he hmix (id := id) (by rw [Nat.eq_of_beq_eq_true hs']; exact hd) (K := K .normal) h
        exact ⟨.normal, st', hK, fun F m hF hr B a w hB hn => hgo B a w (hW _ _ _ hw B a w hB hn) F m hF _ fun a' w' hn' => ⟨rfl, hn'⟩⟩
  | .rangeFunc g ps assign body, blk, K, st, h => by
    simp only [evalCode] at h
    cases hc : env.rnd || !(goodPs st.nt ps.toList) with
    | true => rw [hc] at h; exact h.elim
    | false =>
    rw [hc] at h
    simp only [Bool.or_eq_false_iff] at hc
    simp only [cond_false] at h
    split at h
    · rename_i k first cap hg
      cases hft : noBody env k with
      | true => rw [hft] at h; exact h.elim
      | false =>
      rw [hft] at h
      simp only [cond_false] at h
      obtain ⟨v, u, n, rd, wr, hK, hgo⟩ := range_ok he hg hft h
      simp only [setDst] at hK
      split at hK
      · rename_i tm nt ps' as bd pend hlk
        rcases pend with _ | _ | e
        · exact ⟨.normal, _, hK, fun F m hF hr B a w hB hn => hgo F m hF (hr hc.1) B a w hn _ _ _ _ _ _ hlk (by intro e; cases e) _ fun a' w' hn' => ⟨rfl, hn'⟩⟩
        · exact hK.elim
        · refine ⟨e, _, hK, fun F m hF hr B a w hB hn => hgo F m hF (hr hc.1) B a w hn _ _ _ _ _ _ hlk (by intro e; cases e) _ fun a' w' hn' => ⟨?_, hn'⟩⟩
          cases e <;> rfl
      · exact hK.elim
    · exact h.elim
  | .scope _, blk, K, st, h => h.elim
  | .label _, blk, K, st, h => h.elim
  | .goto _, blk, K, st, h => h.elim
  | .refuse _, blk, K, st, h => h.elim

end Go.Se

/- Part 15: functions. -/
namespace Go.Se
variable {P : Program}

theorem get_params : ∀ (xs : List SV) (i t : Nat), get (params xs i) t = if h : i ≤ t ∧ t - i < xs.length then xs[t - i]'h.2 else .junk
  | [], i, t => by simp [params, get]
  | x :: xs, i, t => by
    simp only [params, get]
    by_cases e : i = t
    · subst e; simp
    · have hb : Nat.beq i t = false := by rw [Bool.eq_false_iff]; intro h; exact e (Nat.eq_of_beq_eq_true h)
      rw [hb, cond_false, get_params xs (i + 1) t]
      by_cases h : i + 1 ≤ t ∧ t - (i + 1) < xs.length
      · rw [dif_pos h, dif_pos ⟨by omega, by simp; omega⟩]
        have : t - i = (t - (i + 1)) + 1 := by omega
        simp [this]
      · rw [dif_neg h, dif_neg]
        rintro ⟨h1, h2⟩
        simp only [List.length_cons] at h2
        exact h ⟨by omega, by omega⟩

theorem look_stores : ∀ (σ : List (Option SB)) (i t : Nat), look (stores σ i) t = if h : i ≤ t ∧ t - i < σ.length then σ[t - i]'h.2 else none
  | [], i, t => by simp [stores, look]
  | x :: xs, i, t => by
    simp only [stores, look]
    by_cases e : i = t
    · subst e; simp
    · have hb : Nat.beq i t = false := by rw [Bool.eq_false_iff]; intro h; exact e (Nat.eq_of_beq_eq_true h)
      rw [hb, cond_false, look_stores xs (i + 1) t]
      by_cases h : i + 1 ≤ t ∧ t - (i + 1) < xs.length
      · rw [dif_pos h, dif_pos ⟨by omega, by simp; omega⟩]
        have : t - i = (t - (i + 1)) + 1 := by omega
        simp [this]
      · rw [dif_neg h, dif_neg]
        rintro ⟨h1, h2⟩
        simp only [List.length_cons] at h2
        exact h ⟨by omega, by omega⟩

theorem upto_get : ∀ (n i : Nat), (upto n)[i]? = if i < n then some i else none
  | 0, i => by simp [upto]
  | n + 1, i => by
    have hlen : (upto n).length = n := by
      have := fun j => upto_get n j
      rcases Nat.lt_trichotomy (upto n).length n with h | h | h
      · have h1 := this (upto n).length
        rw [if_pos h] at h1
        simp at h1
      · exact h
      · have h1 := this n
        rw [if_neg (Nat.lt_irrefl _), List.getElem?_eq_getElem h] at h1
        cases h1
    simp only [upto]
    rcases Nat.lt_trichotomy i n with h | h | h
    · rw [List.getElem?_append_left (by omega), upto_get n i, if_pos h, if_pos (by omega)]
    · subst h
      rw [List.getElem?_append_right (by omega), hlen]; simp
    · rw [List.getElem?_append_right (by omega), hlen, if_neg (by omega)]
      have : i - n ≠ 0 := by omega
      rw [List.getElem?_eq_none (by simp; omega)]

theorem upto_len (n : Nat) : (upto n).length = n := by
  rcases Nat.lt_trichotomy (upto n).length n with h | h | h
  · have h1 := upto_get n (upto n).length
    rw [if_pos h] at h1
    simp at h1
  · exact h
  · have h1 := upto_get n n
    rw [if_neg (Nat.lt_irrefl _), List.getElem?_eq_getElem h] at h1
    cases h1

theorem resultE_ok {env : Env} (he : EnvOK2 P env) {st : St} {r : ResultVar} {v : SV} (h : resultE env st r = some v) {B : Base P} {A : Nat → Prop} {D : List Nat} {nt : Nat} {a : Act} {w : World}
    {ρ : Names} {T : Nat → Prop} (hh : Holds B (get st.tmps) (look st.store) A D nt a w ρ T) :
    ∃ y, ((match r with | .tmp t => Pure.pure (a.tmps.getD t undef) | .cell x t => (do loadVar t (← asAddr (a.tmps.getD x undef)))) : Sem Value).run P w = .ok y w ∧ rel ρ T w v y := by
  cases r with
  | tmp t =>
    simp only [resultE, Option.some.injEq] at h
    subst h
    exact ⟨_, rfl, hh.tmps t⟩
  | cell x t =>
    simp only [resultE] at h
    split at h
    · rename_i ti id off ht hx
      split at h
      · rename_i e cs hl
        have h1 := hh.tmps x
        rw [hx] at h1
        obtain ⟨b, h2, h3⟩ := h1
        obtain ⟨_, b', h4, h5, vs, h6, h7⟩ := hh.store id _ hl
        rw [h2] at h4; cases h4
        obtain ⟨y, h8, h9⟩ := run_loadVar (he.tt _ _ ht) h6 h7 h
        refine ⟨y, ?_, h9⟩
        simp only [Sem.run_bind, h3, asAddr, Sem.run_pure, Result.andThen_ok, h8]
      · cases h
    · cases h

theorem resultsE_ok {env : Env} (he : EnvOK2 P env) {st : St} {B : Base P} {A : Nat → Prop} {D : List Nat} {nt : Nat} {a : Act} {w : World}
    {ρ : Names} {T : Nat → Prop} (hh : Holds B (get st.tmps) (look st.store) A D nt a w ρ T) : ∀ (rs : List ResultVar) (vs : List SV), resultsE env st rs = some vs →
    ∃ ys, (rs.mapM fun r => ((match r with | .tmp t => Pure.pure (a.tmps.getD t undef) | .cell x t => (do loadVar t (← asAddr (a.tmps.getD x undef)))) : Sem Value)).run P w = .ok ys w ∧ relL ρ T w vs ys
  | [], vs, h => by
    simp only [resultsE, Option.some.injEq] at h
    subst h
    exact ⟨[], rfl, rfl⟩
  | r :: rs, vs, h => by
    simp only [resultsE] at h
    split at h
    · rename_i v vs' hv hvs
      cases h
      obtain ⟨y, h1, h2⟩ := resultE_ok he hv hh
      obtain ⟨ys, h3, h4⟩ := resultsE_ok he hh rs vs' hvs
      refine ⟨y :: ys, ?_, y, ys, rfl, h2, h4⟩
      rw [List.mapM_cons]
      simp only [Sem.run_bind, h1, Result.andThen_ok, h3, Sem.run_pure]
    · cases h

theorem results_ok {env : Env} (he : EnvOK2 P env) {st : St} {fn : Func} {vs : List SV} (h : resultsE env st fn.results.toList = some vs) {B : Base P} {A : Nat → Prop} {D : List Nat} {nt : Nat} {a : Act} {w : World}
    {ρ : Names} {T : Nat → Prop} (hh : Holds B (get st.tmps) (look st.store) A D nt a w ρ T) :
    ∃ y, (results fn a.tmps).run P w = .ok y w ∧ rel ρ T w (tupled vs) y := by
  obtain ⟨ys, h1, h2⟩ := resultsE_ok he hh _ _ h
  refine ⟨if hs : ys.toArray.size = 1 then ys.toArray[0] else .tuple ys.toArray, ?_, ?_⟩
  · unfold results
    rw [Sem.run_bind]
    have : (fn.results.mapM fun r => ((match r with | .tmp t => Pure.pure (a.tmps.getD t undef) | .cell x t => (do loadVar t (← asAddr (a.tmps.getD x undef)))) : Sem Value)).run P w = .ok ys.toArray w := by
      rw [← Array.toArray_toList (xs := fn.results), List.mapM_toArray]
      simp only [Sem.run_map, h1, Result.andThen_ok]
    exact congrArg (fun r : Result (Array Value) => r.andThen fun b w' => Sem.run P (Pure.pure (if h : b.size = 1 then b[0] else Value.tuple b) : Sem Value) w') this
  · have hl := relL_len h2
    match vs, h2, hl with
    | [v], h2, _ =>
      obtain ⟨y, r, h3, h4, h5⟩ := h2
      have h5' : r = [] := h5
      subst h5'
      subst h3
      simpa [tupled] using h4
    | [], h2, hl =>
      rw [dif_neg (by simp at hl ⊢; omega)]
      exact ⟨ys.toArray, rfl, by simpa using h2⟩
    | _ :: _ :: _, h2, hl =>
      rw [dif_neg (by simp at hl ⊢; omega)]
      exact ⟨ys.toArray, rfl, by simpa using h2⟩

/-- The end: what is handed back, by the names of those who called. -/
theorem finish_done {st : St} {w : World} {ρ : Names} {T : Nat → Prop} {σ : List (Option SB)} {v : SV} {F G : List Nat} (hF : reach st.store 200 (upto σ.length ++ ids v) [] = F) (hG : upto σ.length ++ F.filter (fun i => Nat.ble σ.length i) = G)
    {D : List Nat} (hD : D = st.dirty) {A : Nat → Prop} {nt : Nat} {a' : Act} {w' : World} {ρ' : Names} {T' : Nat → Prop} {tm : Nat → SV} (hh : Holds (⟨w, ρ, T, σ.length⟩ : Base P) tm (look st.store) A D nt a' w' ρ' T') {y : Value} (hy2 : rel ρ' T' w' v y) :
    ∃ ρ2 T2, CallDone ρ T w σ (ren (fun i => idx G i 0) v) (G.map fun i => (look st.store i).map (renB fun i => idx G i 0)) (st.dirty.filter fun i => Nat.blt i σ.length) ρ2 T2 w' y := by
  subst hD
  obtain ⟨hnd, halive⟩ := reach_ok (s := st.store) 200 (upto σ.length ++ ids v) [] List.nodup_nil (by simp)
  rw [hF] at hnd halive
  have hup := upto_len σ.length
  have hGlt : ∀ p, p < σ.length → G[p]? = some p := by
    intro p hp
    rw [← hG, List.getElem?_append_left (by omega), upto_get, if_pos hp]
  have hGge : ∀ p i, σ.length ≤ p → G[p]? = some i → (F.filter fun i => Nat.ble σ.length i)[p - σ.length]? = some i := by
    intro p i hp hi
    rw [← hG, List.getElem?_append_right (by omega), hup] at hi
    exact hi
  have hGlen : σ.length ≤ G.length := by rw [← hG, List.length_append]; omega
  let ρ2 : Names := fun p => (G[p]?).bind ρ'
  have hren : ∀ i j b, (fun i => idx G i 0) i = some j → ρ' i = some b → ρ2 j = some b := by
    intro i j b hi hb
    obtain ⟨_, hj⟩ := idx_some hi
    rw [Nat.sub_zero] at hj
    show (G[j]?).bind ρ' = some b
    rw [hj]; exact hb
  have hdead : ∀ q, q ∈ st.dirty → q < σ.length → look st.store q = none →
      q ∈ (st.dirty.filter fun i => Nat.blt i σ.length) ∧ (G.map fun i => (look st.store i).map (renB fun i => idx G i 0))[q]? = some none := by
    intro q h1 h2 h3
    refine ⟨List.mem_filter.2 ⟨h1, by simpa using h2⟩, ?_⟩
    rw [List.getElem?_map, hGlt q h2, Option.map_some, h3]; rfl
  have hdone : CallDone ρ T w σ (ren (fun i => idx G i 0) v) (G.map fun i => (look st.store i).map (renB fun i => idx G i 0)) (st.dirty.filter fun i => Nat.blt i σ.length) ρ2 T' w' y := by
    refine {
      names := fun p b hp => ?_
      only := fun p b hp => ?_
      len := by simpa using hGlen
      val := rel_ren hren _ _ hy2
      store := fun p sb hp => ?_
      fresh := fun p b hp hb => ?_
      inj := fun p q b hp hq h1 h2 => ?_
      dirty := fun p hp => by simpa using (List.mem_filter.1 hp).2
      grow := hh.grow.mono fun b _ ⟨p, h1, h2, h3⟩ => ⟨p, List.mem_filter.2 ⟨h1, by simpa using h2⟩, h3⟩
      tback := hh.tback
      below := fun p b hp => ?_
      tkeep := fun b hb hT => ?_ }
    · have h1 := hh.old p b hp
      show (G[p]?).bind ρ' = some b
      rw [hGlt p h1.1]; exact h1.2
    · obtain ⟨i, hi, _⟩ := Option.bind_eq_some_iff.1 hp
      have := (List.getElem?_eq_some_iff.1 hi).1
      simpa using this
    · rw [List.getElem?_map] at hp
      cases hi : G[p]? with
      | none => rw [hi] at hp; cases hp
      | some i =>
        rw [hi, Option.map_some, Option.some.injEq] at hp
        cases hl : look st.store i with
        | none => rw [hl] at hp; cases hp
        | some sb0 =>
          rw [hl, Option.map_some, Option.some.injEq] at hp
          subst hp
          obtain ⟨_, b, h1, h2, h3⟩ := hh.store i sb0 hl
          exact ⟨b, by show (G[p]?).bind ρ' = some b; rw [hi]; exact h1, h2, relB_ren hren h3⟩
    · obtain ⟨i, hi, hib⟩ := Option.bind_eq_some_iff.1 hb
      have h1 := List.mem_of_getElem? (hGge p i hp hi)
      obtain ⟨h2, h3⟩ := List.mem_filter.1 h1
      obtain ⟨sb, hsb⟩ := halive i h2
      rcases hh.fresh i b (by rw [hsb]; rfl) (Nat.le_of_ble_eq_true h3) hib with h4 | ⟨q, h4, h5, h6, h7⟩
      · exact .inl h4
      · obtain ⟨h8, h9⟩ := hdead q h4 h5 h6
        exact .inr ⟨q, h8, h9, h7⟩
    · obtain ⟨i, hi, hib⟩ := Option.bind_eq_some_iff.1 h1
      obtain ⟨j, hj, hjb⟩ := Option.bind_eq_some_iff.1 h2
      have hi' := hGge p i hp hi
      have hj' := hGge q j hq hj
      obtain ⟨si, hsi⟩ := halive i (List.mem_filter.1 (List.mem_of_getElem? hi')).1
      obtain ⟨sj, hsj⟩ := halive j (List.mem_filter.1 (List.mem_of_getElem? hj')).1
      have hij := hh.inj i j b (by rw [hsi]; rfl) (by rw [hsj]; rfl) hib hjb
      subst hij
      obtain ⟨l1, e1⟩ := List.getElem?_eq_some_iff.1 hi'
      obtain ⟨l2, e2⟩ := List.getElem?_eq_some_iff.1 hj'
      have := nodup_inj (hnd.filter _) l1 l2 (e1.trans e2.symm)
      omega
    · obtain ⟨i, hi, hib⟩ := Option.bind_eq_some_iff.1 hp
      exact (hh.names i b hib).2
    · rcases hh.tkeep b hb hT with h1 | ⟨q, h1, h2, h3, h4⟩
      · exact .inl h1
      · obtain ⟨h5, h6⟩ := hdead q h1 h2 h3
        exact .inr ⟨q, h5, h6, h4⟩
  exact ⟨ρ2, T', hdone⟩

theorem evalFn_sat {env : Env} (he : EnvOK2 P env) (hmix : P.follows .mixedOrders = true) {W : Nat → Nat → St → Option St} (hW : ∀ n, Weaker P n (W n)) {k : FuncId} {fn : Func} (hf : P.funcs[k]? = some fn)
    (hname : (fn.name == "runtime.NumGoroutine") = false) (xs : List SV) (σ : List (Option SB)) : Sat P k xs σ (evalFn env W fn xs σ) := by
  intro K h
  unfold evalFn at h
  split at h
  · exact h.elim
  · rename_i c hbody
    obtain ⟨x, st, hx, hgo⟩ := evalCode_ok he hmix (hW σ.length) c _ _ _ h
    have hfin : finish env σ.length fn.results.toList K st ∧ (exOf x = .normal ∨ exOf x = .ret) := by
      cases x with
      | normal => exact ⟨hx, .inl rfl⟩
      | exit i => exact hx.elim
      | ret => exact ⟨hx, .inr rfl⟩
    obtain ⟨hfin, hex⟩ := hfin
    unfold finish at hfin
    split at hfin
    · exact hfin.elim
    · rename_i vs hvs
      unfold finishV at hfin
      simp only at hfin
      generalize hv : tupled vs = v at hfin
      obtain ⟨hnd, halive⟩ := reach_ok (s := st.store) 200 (upto σ.length ++ ids v) [] List.nodup_nil (by simp)
      generalize hF : reach st.store 200 (upto σ.length ++ ids v) [] = F at hfin hnd halive
      generalize hG : upto σ.length ++ F.filter (fun i => Nat.ble σ.length i) = G at hfin
      refine ⟨ren (fun i => idx G i 0) v, G.map fun i => (look st.store i).map (renB fun i => idx G i 0), st.dirty.filter fun i => Nat.blt i σ.length, hfin, ?_⟩
      intro ρ T w vals hvals hstore hinj hnames
      let B : Base P := ⟨w, ρ, T, σ.length⟩
      have hlen := relL_len hvals
      have hlen' : xs.length = vals.size := by simpa using hlen
      have hstart : Now B ⟨params xs 0, stores σ 0, σ.length, [], xs.length + (fn.ntmps - xs.length)⟩ { tmps := vals ++ Array.replicate (fn.ntmps - vals.size) undef, defers := [] } w := by
        refine ⟨Nat.le_refl _, ρ, T, ?_⟩
        exact {
          defers := Marks.nil
          size := by simp [hlen']
          tmps := fun t => by
            rw [get_params]
            split
            · rename_i ht
              simp only [Nat.sub_zero] at ht ⊢
              obtain ⟨y, hy1, hy2⟩ := relL_get t hvals (List.getElem?_eq_getElem ht.2)
              have : (vals ++ Array.replicate (fn.ntmps - vals.size) undef).getD t undef = y := by
                rw [Array.getD_eq_getD_getElem?, Array.getElem?_append_left (by omega)]
                rw [Array.getElem?_toList] at hy1
                rw [hy1]; rfl
              rw [this]; exact hy2
            · trivial
          store := fun id sb hid => by
            rw [look_stores] at hid
            split at hid
            · rename_i ht
              simp only [Nat.sub_zero] at ht hid
              obtain ⟨sb', b, h1, h2, h3, h4⟩ := hstore id ht.2
              rw [List.getElem?_eq_getElem ht.2, hid] at h1
              cases h1
              exact ⟨ht.2, b, h2, h3, h4⟩
            · cases hid
          names := hnames
          inj := fun i j b _ _ h1 h2 => hinj i j b h1 h2
          base := fun _ h => h
          full := fun p hp => by obtain ⟨_, b, _, h2, _⟩ := hstore p hp; exact ⟨b, h2⟩
          grow := Grow.refl _ _
          old := fun p b hp => ⟨(hnames p b hp).1, hp⟩
          tback := fun _ _ h => h
          tkeep := fun _ _ h => .inl h
          fresh := fun id b hid hn _ => by
            exfalso
            rw [look_stores] at hid
            split at hid
            · rename_i ht; simp only [Nat.sub_zero] at ht; exact absurd hn (Nat.not_le.2 ht.2)
            · cases hid
          inv := hnames.inv }
      have hwp := hgo Fence.wide 0 ⟨none, rfl⟩ (fun _ => rfl) B _ w rfl hstart
      left
      refine ⟨fn, hf, by rw [hbody]; rfl, hname, callsIn_wide.1 (callsIn_of_wp_marks (n := 0) hf hbody trivial (wpIn_mono hwp ?_))⟩
      rintro e a0 w0 ⟨rfl, hB', ρ', T', hh0⟩
      obtain ⟨marks, hm1, hm2, hm3⟩ := hh0.defers
      have key := leaves_marks (fn := fn) marks a0 w0 hm1 hm2 hm3 hh0 (R := fun e w' => ∃ x, e = .returned x ∧ ∃ ρ2 T2, CallDone ρ T w σ (ren (fun i => idx G i 0) v) (G.map fun i => (look st.store i).map (renB fun i => idx G i 0)) (st.dirty.filter fun i => Nat.blt i σ.length) ρ2 T2 w' x) ?_
      · rcases hex with hex | hex <;> rw [hex] <;> exact key
      intro a' w' htm hh
      rw [← htm]
      obtain ⟨y, hy1, hy2⟩ := results_ok he hvs hh
      rw [hv] at hy2
      obtain ⟨ρ2, T2, hdone⟩ := finish_done hF hG rfl hh hy2
      exact ⟨y, hy1, y, rfl, ρ2, T2, hdone⟩

/-- A round. -/
theorem evalRound_sat {env : Env} (he : EnvOK2 P env) (hrnd : env.rnd = true) (hmix : P.follows .mixedOrders = true) {W : Nat → Nat → St → Option St} (hW : ∀ n, Weaker P n (W n)) (xs : List SV) (σ : List (Option SB)) : RSat P xs σ (evalRound env W xs σ) := by
  intro K h
  unfold evalRound at h
  split at h
  case h_2 => exact h.elim
  rename_i tm nt ps assign body r
  cases hc : Nat.beq ps.length xs.length && goodPs nt ps with
  | false => rw [hc] at h; exact h.elim
  | true =>
  rw [hc] at h
  simp only [Bool.and_eq_true] at hc
  obtain ⟨hc1, hc2⟩ := hc
  have hc1 := Nat.eq_of_beq_eq_true hc1
  simp only [cond_true] at h
  obtain ⟨x1, st1, hx1, hgo1⟩ := evalCode_ok he hmix (hW _) assign _ _ _ h
  cases x1 with
  | exit id => exact hx1.elim
  | ret => exact hx1.elim
  | normal =>
  simp only at hx1
  split at hx1
  case h_2 => exact hx1.elim
  rename_i tm1 nt1 ps1 as1 bd1 hlk1
  obtain ⟨x2, st2, hx2, hgo2⟩ := evalCode_ok he hmix (hW _) body _ _ _ hx1
  split at hx2
  case h_2 => exact hx2.elim
  rename_i tm2 nt2 ps2 as2 bd2 hlk2
  -- what the end comes to
  have hend : ∃ (b : Bool) (pd : Pd), finishV (r.length + 1) (.bool b) K { st2 with store := (0, some (.loop tm2 nt2 ps2 as2 bd2 pd)) :: st2.store, dirty := addTo st2.dirty [0] } ∧ b = (match x2 with | .normal => true | _ => false) ∧ pd = (match x2 with | .normal => .ready | e => .left e) := by
    cases x2 with
    | normal => exact ⟨true, .ready, hx2, rfl, rfl⟩
    | exit id => exact ⟨false, .left (.exit id), hx2, rfl, rfl⟩
    | ret => exact ⟨false, .left .ret, hx2, rfl, rfl⟩
  obtain ⟨b, pd, hfin, hb, hpd⟩ := hend
  unfold finishV at hfin
  simp only at hfin
  generalize hF : reach ((0, some (SB.loop tm2 nt2 ps2 as2 bd2 pd)) :: st2.store) 200 (upto (r.length + 1) ++ ids (SV.bool b)) [] = F at hfin
  generalize hG : upto (r.length + 1) ++ F.filter (fun i => Nat.ble (r.length + 1) i) = G at hfin
  refine ⟨_, _, _, hfin, ?_⟩
  intro ρ T w vals hvals hstore hinj hlow
  obtain ⟨sb, l, h0, hl, hT, hrel⟩ := hstore 0 (by simp)
  simp only [List.getElem?_cons_zero, Option.some.injEq] at h0
  subst h0
  obtain ⟨rec0, hr1, hr2, hr3, rfl, rfl, hr6, hr7⟩ := hrel
  have hlen := relL_len hvals
  refine ⟨l, hl, rec0, hr1, ?_, fun F0 n hFw => ?_⟩
  · have : rec0.params.size = ps.length := by rw [← hr3]; simp
    simp only [Array.length_toList] at hlen
    omega
  refine roundIn_of_wpIn (hFw.fn _) ?_
  let B : Base P := ⟨w, ρ, T, r.length + 1⟩
  have hzip := zip_rel ps xs vals.toList (get tm) rec0.tmps hc2 hr6 hc1 hvals hr7
  have hfold : (rec0.params.zip vals).foldl (fun tmps (t, a) => tmps.setIfInBounds t a) rec0.tmps = (ps.zip vals.toList).foldl (fun tmps (t, a) => tmps.setIfInBounds t a) rec0.tmps := by
    rw [← Array.foldl_toList, Array.toList_zip, hr3]
  rw [hfold]
  have hstart : Now B ⟨zipT ps xs ++ tm, stores (some (.loop tm nt ps rec0.assign rec0.body .ready) :: r) 0, r.length + 1, [], nt⟩ { tmps := (ps.zip vals.toList).foldl (fun tmps (t, a) => tmps.setIfInBounds t a) rec0.tmps, defers := [] } w := by
    refine ⟨Nat.le_refl _, ρ, T, ?_⟩
    exact {
      defers := Marks.nil
      size := hzip.1
      tmps := fun t => by rw [get_zipT ps xs tm t hc2]; exact hzip.2 t
      store := fun id sb hid => by
        rw [look_stores] at hid
        split at hid
        · rename_i ht
          simp only [Nat.sub_zero] at ht hid
          obtain ⟨sb', b, h1, h2, h3, h4⟩ := hstore id ht.2
          rw [List.getElem?_eq_getElem ht.2, hid] at h1
          cases h1
          exact ⟨by simpa using ht.2, b, h2, h3, h4⟩
        · cases hid
      names := fun id b hid => by have := hlow.low id b hid; simpa using this
      inj := fun i j b _ _ h1 h2 => hinj i j b h1 h2
      base := fun _ h => h
      full := fun p hp => by obtain ⟨_, b, _, h2, _⟩ := hstore p (by simpa using hp); exact ⟨b, h2⟩
      grow := Grow.refl _ _
      old := fun p b hp => ⟨by have := (hlow.low p b hp).1; simpa using this, hp⟩
      tback := fun _ _ h => h
      tkeep := fun _ _ h => .inl h
      fresh := fun id b hid hn _ => by
        exfalso
        rw [look_stores] at hid
        split at hid
        · rename_i ht
          have h1 : id < r.length + 1 := by have := ht.2; simpa using this
          have h2 : r.length + 1 ≤ id := hn
          omega
        · cases hid
      inv := hlow.inv }
  have g1 := hgo1 (F0.inRound l) n (hFw.in l) (fun e => by rw [hrnd] at e; cases e) B _ w rfl hstart
  refine wpIn_mono g1 ?_
  rintro e a1 w1 ⟨rfl, hB1, ρ1, T1, hh1⟩
  have hl1 : ρ1 0 = some l := (hh1.old 0 l hl).2
  obtain ⟨_, l1, e1, e2, rec1, f1, f2, f3, f4, f5, f6, f7⟩ := hh1.store 0 _ hlk1
  rw [hl1] at e1; cases e1
  show ∃ w₂, (Instr.beginRound l).run P w1 = .ok () w₂ ∧ _
  refine ⟨_, run_beginRound f1 f2.1, ?_⟩
  have hp1 := put_putObj (o' := .loop { rec1 with state := .busy }) f1 (fun _ _ _ e => by cases e)
  have hn2 : Now B { st1 with store := (0, some (.loop tm1 nt1 ps1 as1 bd1 .busy)) :: st1.store, dirty := addTo st1.dirty [0] } a1 (w1.putObj l (.loop { rec1 with state := .busy })) := by
    refine ⟨hB1, ρ1, T1, hh1.turnRec (by rw [hlk1]; rfl) hl1 hp1 e2 ?_ (Nat.succ_pos _) (fun p hp => (mem_addTo _ _ _).2 (.inl hp)) ((mem_addTo _ _ _).2 (.inr (by simp)))⟩
    exact ⟨_, World.putObj_heap_same (Array.getElem?_eq_some_iff.1 f1).1, rfl, f3, f4, f5, f6, fun t => rel_put hp1 _ _ (f7 t)⟩
  have g2 := hgo2 (F0.inRound l) n (hFw.in l) (fun e => by rw [hrnd] at e; cases e) B a1 _ rfl hn2
  refine wpIn_mono g2 ?_
  rintro e a2 w3 ⟨rfl, hB3, ρ3, T3, hh3⟩
  have hl3 : ρ3 0 = some l := (hh3.old 0 l hl).2
  obtain ⟨_, l3, k1, k2, rec2, m1, m2, m3, m4, m5, m6, m7⟩ := hh3.store 0 _ hlk2
  rw [hl3] at k1; cases k1
  have fin : ∀ (jump : Option Code) (o : LoopState), o = (if jump.isNone then .ready else .done) → pendOf pd o jump → b = jump.isNone →
      ∃ v w', (Instr.endRound l jump).run P w3 = .ok v w' ∧ ∃ x, Ending.returned v = .returned x ∧ ∃ ρ' T', CallDone ρ T w (some (.loop tm nt ps rec0.assign rec0.body .ready) :: r) (ren (fun i => idx G i 0) (SV.bool b)) (G.map fun i => (look ((0, some (SB.loop tm2 nt2 ps2 as2 bd2 pd)) :: st2.store) i).map (renB fun i => idx G i 0)) ((addTo st2.dirty [0]).filter fun i => Nat.blt i (r.length + 1)) ρ' T' w' x := by
    intro jump o ho hpo hbj
    have hp3 := put_putObj (o' := .loop { rec2 with state := if jump.isNone then .ready else .done, pending := jump }) m1 (fun _ _ _ e => by cases e)
    have hh4 := hh3.turnRec (Ds' := addTo st2.dirty [0]) (sb := .loop tm2 nt2 ps2 as2 bd2 pd) (by rw [hlk2]; rfl) hl3 hp3 k2
      ⟨_, World.putObj_heap_same (Array.getElem?_eq_some_iff.1 m1).1, by rw [← ho]; exact hpo, m3, m4, m5, m6, fun t => rel_put hp3 _ _ (m7 t)⟩ (Nat.succ_pos _) (fun p hp => (mem_addTo _ _ _).2 (.inl hp)) ((mem_addTo _ _ _).2 (.inr (by simp)))
    refine ⟨_, _, run_endRound jump m1, _, rfl, ?_⟩
    have := finish_done (st := { st2 with store := (0, some (SB.loop tm2 nt2 ps2 as2 bd2 pd)) :: st2.store, dirty := addTo st2.dirty [0] }) (σ := some (.loop tm nt ps rec0.assign rec0.body .ready) :: r) (v := .bool b) (F := F) (G := G) hF hG rfl hh4 (y := .bool jump.isNone) (by rw [hbj]; rfl)
    exact this
  cases x2 with
  | normal =>
    subst hb; subst hpd
    exact fin none _ rfl ⟨rfl, rfl⟩ rfl
  | exit id =>
    subst hb; subst hpd
    exact fin (some (.exit id)) _ rfl ⟨rfl, rfl⟩ rfl
  | ret =>
    subst hb; subst hpd
    exact fin (some .ret) _ rfl ⟨rfl, rfl⟩ rfl

/-- Calls, so deep; and rounds. -/
theorem calls_both {env : Env} (he : EnvOK P env) (hmix : P.follows .mixedOrders = true) {W : Nat → Nat → St → Option St} (hW : ∀ n, Weaker P n (W n)) {known : FuncId → Bool}
    (hft : ∀ k fn, env.ft k = some fn → P.funcs[k]? = some fn ∧ (fn.name == "runtime.NumGoroutine") = false) :
    ∀ (d : Nat), (∀ (k : FuncId) (xs : List SV) (σ : List (Option SB)), Sat P k xs σ (calls env W known d k xs σ)) ∧ ∀ (xs : List SV) (σ : List (Option SB)), RSat P xs σ (calls.roundsN env W known d xs σ)
  | 0 => ⟨fun k xs σ => he.callee k xs σ, fun _ _ _ h => h.elim⟩
  | d + 1 => by
    obtain ⟨ih1, ih2⟩ := calls_both he hmix hW (known := known) hft d
    refine ⟨fun k xs σ K h => ?_, fun xs σ K h => ?_⟩
    · simp only [calls] at h
      cases hk : known k with
      | true => rw [hk] at h; exact he.callee k xs σ K h
      | false =>
        rw [hk] at h
        simp only [cond_false] at h
        split at h
        · exact h.elim
        · rename_i fn hfn
          obtain ⟨h1, h2⟩ := hft k fn hfn
          exact evalFn_sat (env := { env with callee := calls env W known d, round := fun xs σ K => calls.roundsN env W known d xs σ K }) ⟨⟨he.tt, fun k xs σ => ih1 k xs σ⟩, fun xs σ => ih2 xs σ, hft⟩ hmix hW h1 h2 xs σ K h
    · simp only [calls.roundsN] at h
      exact evalRound_sat (env := { env with callee := calls env W known d, round := fun xs σ K => calls.roundsN env W known d xs σ K, rnd := true }) ⟨⟨he.tt, fun k xs σ => ih1 k xs σ⟩, fun xs σ => ih2 xs σ, hft⟩ rfl hmix hW xs σ K h
/-- Calls, so deep. -/
theorem calls_sat {env : Env} (he : EnvOK P env) (hmix : P.follows .mixedOrders = true) {W : Nat → Nat → St → Option St} (hW : ∀ n, Weaker P n (W n)) {known : FuncId → Bool}
    (hft : ∀ k fn, env.ft k = some fn → P.funcs[k]? = some fn ∧ (fn.name == "runtime.NumGoroutine") = false)
    (d : Nat) (k : FuncId) (xs : List SV) (σ : List (Option SB)) : Sat P k xs σ (calls env W known d k xs σ) := (calls_both he hmix hW hft d).1 k xs σ

end Go.Se

