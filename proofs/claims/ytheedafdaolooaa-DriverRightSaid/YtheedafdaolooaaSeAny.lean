/- Part 13: a region's operations in any order that its edges let. -/
import Derived.Test.YtheedafdaolooaaSeRegion
namespace Go.Se
variable {P : Program}

structure AtStep (P : Program) (all : List Oper) (o : Nat) (st st' : St) (l : List Step) (i : Nat) (s : Step) : Prop where
  ok : StepOK P all s
  tm : get s.st.tmps = foldG pT (fun k => decide (k < o + i)) o l (get st.tmps)
  sf : look s.st.store = foldG pS (fun k => decide (k < o + i)) o l (look st.store)
  nt : s.st.nt = st.nt
  lo : st.nxt ≤ s.st.nxt
  hi : s.n ≤ st'.nxt
  after : ∀ (k : Nat) (s' : Step), l[k]? = some s' → i < k → s.n ≤ s'.st.nxt
  wr : ∀ p, p ∈ s.wr → p ∈ st'.dirty
  scope : (∀ id sb, look st.store id = some sb → id < st.nxt) → ∀ id sb, look s.st.store id = some sb → id < s.st.nxt

theorem foldG_none {β : Type} (p : Step → Nat → Option β) (S : Nat → Bool) : ∀ (l : List Step) (o : Nat) (f : Nat → β), (∀ k, o ≤ k → S k = false) → foldG p S o l f = f
  | [], _, _, _ => rfl
  | s :: l, o, f, h => by
    simp only [foldG, h o (Nat.le_refl _), Bool.false_eq_true, if_false]
    exact foldG_none p S l (o + 1) f fun k hk => h k (by omega)

structure ChainEnds (st st' : St) (l : List Step) (o : Nat) : Prop where
  tm : get st'.tmps = foldG pT (fun _ => true) o l (get st.tmps)
  sf : look st'.store = foldG pS (fun _ => true) o l (look st.store)
  nt : st'.nt = st.nt
  dirty : ∀ p, p ∈ st.dirty → p ∈ st'.dirty
  nxt : ∀ id, id < st'.nxt ↔ id < st.nxt ∨ ∃ (k : Nat) (s : Step), l[k]? = some s ∧ s.st.nxt ≤ id ∧ id < s.n
  le : st.nxt ≤ st'.nxt

theorem chain_ends {all : List Oper} {st st' : St} {l : List Step} (hc : Chain P all st l st') : ∀ o, ChainEnds st st' l o := by
  induction hc with
  | nil st => exact fun o => ⟨rfl, rfl, rfl, fun _ h => h, fun id => by simp, Nat.le_refl _⟩
  | @cons st st' s l hsame hok hc ih =>
    intro o
    have h := ih (o + 1)
    have ht : get st.tmps = get s.st.tmps := funext hsame.tmps
    refine ⟨?_, ?_, ?_, ?_, ?_, ?_⟩
    · rw [h.tm, get_post, upd_pT, ht]; rfl
    · rw [h.sf, look_post, updS_pS, hsame.store]; rfl
    · rw [h.nt, hsame.nt]; rfl
    · intro p hp
      rw [hsame.dirty] at hp
      exact h.dirty p ((mem_addTo _ _ _).2 (.inl hp))
    · intro id
      rw [h.nxt id]
      have hn : s.post.nxt = s.n := rfl
      have hle := hok.nxt
      rw [hn, hsame.nxt]
      constructor
      · rintro (h1 | ⟨k, s', h1, h2⟩)
        · by_cases h2 : id < s.st.nxt
          · exact .inl h2
          · exact .inr ⟨0, s, rfl, by omega, h1⟩
        · exact .inr ⟨k + 1, s', by simpa using h1, h2⟩
      · rintro (h1 | ⟨k, s', h1, h2, h3⟩)
        · left; omega
        · cases k with
          | zero => simp at h1; subst h1; exact .inl h3
          | succ k => exact .inr ⟨k, s', by simpa using h1, h2, h3⟩
    · have := h.le
      have hn : s.post.nxt = s.n := rfl
      have hle := hok.nxt
      rw [hsame.nxt]; omega

theorem chain_at {all : List Oper} {st st' : St} {l : List Step} (hc : Chain P all st l st') : ∀ (o i : Nat) (s : Step), l[i]? = some s → AtStep P all o st st' l i s := by
  induction hc with
  | nil st => intro o i s h; simp at h
  | @cons st st' s0 l hsame hok hc ih =>
    intro o i s hi
    have ht : get st.tmps = get s0.st.tmps := funext hsame.tmps
    have hends := chain_ends hc (o + 1)
    cases i with
    | zero =>
      simp only [List.getElem?_cons_zero, Option.some.injEq] at hi
      subst hi
      refine ⟨hok, ?_, ?_, hsame.nt.symm, by rw [hsame.nxt]; exact Nat.le_refl _, hends.le, ?_, ?_, ?_⟩
      · rw [foldG_none _ _ _ _ _ (fun k hk => by simp; omega), ht]
      · rw [foldG_none _ _ _ _ _ (fun k hk => by simp; omega), hsame.store]
      · intro k s' hk hlt
        obtain ⟨j, rfl⟩ : ∃ j, k = j + 1 := ⟨k - 1, by omega⟩
        exact (ih (o + 1) j s' (by simpa using hk)).lo
      · intro p hp
        exact hends.dirty p ((mem_addTo _ _ _).2 (.inr hp))
      · intro h id sb hid
        rw [hsame.store, hsame.nxt] at h
        exact h id sb hid
    | succ i =>
      have h := ih (o + 1) i s (by simpa using hi)
      refine ⟨h.ok, ?_, ?_, h.nt.trans hsame.nt.symm, ?_, h.hi, ?_, h.wr, ?_⟩
      · rw [h.tm, get_post, upd_pT, ← ht]
        simp only [foldG, show decide (o < o + (i + 1)) = true by simp, if_true]
        rw [show o + 1 + i = o + (i + 1) by omega]
      · rw [h.sf, look_post, updS_pS, ← hsame.store]
        simp only [foldG, show decide (o < o + (i + 1)) = true by simp, if_true]
        rw [show o + 1 + i = o + (i + 1) by omega]
      · have h1 := h.lo
        have hn : s0.post.nxt = s0.n := rfl
        have := hok.nxt
        rw [hsame.nxt]; omega
      · intro k s' hk hlt
        obtain ⟨j, rfl⟩ : ∃ j, k = j + 1 := ⟨k - 1, by omega⟩
        exact h.after j s' (by simpa using hk) (by omega)
      · intro hlt
        refine h.scope fun id sb hid => ?_
        rw [hsame.store, hsame.nxt] at hlt
        rw [look_post] at hid
        have hn : s0.post.nxt = s0.n := rfl
        have hle := hok.nxt
        rw [hn]
        rcases updS_cases (look s0.st.store) s0.u id with ⟨o', h1, h2⟩ | ⟨_, h2⟩
        · rcases hok.keys id o' h1 with h3 | h3
          · obtain ⟨sb', hsb'⟩ := hok.alive id (.inr h3)
            have := hlt id sb' hsb'
            omega
          · exact h3.2
        · rw [h2] at hid
          have := hlt id sb hid
          omega

theorem fixed_pairwise {bs : List Nat} : ∀ {tr : List Rec}, fixedOrder bs tr = true → tr.Pairwise fun b a => clash a b = true → (bs.getD b.i 0).testBit a.i = true
  | [], _ => List.Pairwise.nil
  | b :: r, h => by
    simp only [fixedOrder, Bool.and_eq_true, List.all_eq_true] at h
    refine List.Pairwise.cons (fun a ha hcl => ?_) (fixed_pairwise h.2)
    have := h.1 a ha
    rw [hcl] at this
    simpa using this

theorem recs_get : ∀ (l : List Step) (o i : Nat), (recs o l)[i]? = (l[i]?).map (·.toRec (o + i))
  | [], o, i => by simp [recs]
  | s :: l, o, 0 => by simp [recs]
  | s :: l, o, i + 1 => by
    simp only [recs, List.getElem?_cons_succ]
    rw [recs_get l (o + 1) i, show o + 1 + i = o + (i + 1) by omega]

theorem fixed_clash {bs : List Nat} {l : List Step} (h : fixedOrder bs (recs 0 l).reverse = true) {i j : Nat} {s s' : Step} (hi : l[i]? = some s) (hj : l[j]? = some s') (hlt : i < j)
    (hcl : clash (s.toRec i) (s'.toRec j) = true) : (bs.getD j 0).testBit i = true := by
  have hp := List.pairwise_reverse.1 (fixed_pairwise h)
  have h1 : (recs 0 l)[i]? = some (s.toRec i) := by rw [recs_get, hi]; simp
  have h2 : (recs 0 l)[j]? = some (s'.toRec j) := by rw [recs_get, hj]; simp
  obtain ⟨hi', e1⟩ := List.getElem?_eq_some_iff.1 h1
  obtain ⟨hj', e2⟩ := List.getElem?_eq_some_iff.1 h2
  have := List.pairwise_iff_getElem.1 hp i j hi' hj' hlt
  rw [e1, e2] at this
  exact this hcl

def maskOf (acc : List Nat) (o : Oper) : Nat := o.after.toList.foldl (fun s e => bif Region.binds .any e then s ||| (1 <<< e.on) ||| acc.getD e.on 0 else s) 0

theorem mask_bits {acc : List Nat} {a : Nat} : ∀ (es : List Edge) (s : Nat), (es.foldl (fun s e => bif Region.binds .any e then s ||| (1 <<< e.on) ||| acc.getD e.on 0 else s) s).testBit a = true →
    s.testBit a = true ∨ ∃ e ∈ es, Region.binds .any e = true ∧ (e.on = a ∨ (acc.getD e.on 0).testBit a = true)
  | [], s, h => .inl h
  | e :: es, s, h => by
    rw [List.foldl_cons] at h
    rcases mask_bits es _ h with h1 | ⟨e', h1, h2⟩
    · cases hb : Region.binds .any e with
      | false => rw [hb] at h1; exact .inl h1
      | true =>
        rw [hb] at h1
        simp only [cond_true, Nat.testBit_or, Bool.or_eq_true] at h1
        rcases h1 with (h1 | h1) | h1
        · exact .inl h1
        · right
          refine ⟨e, by simp, hb, .inl ?_⟩
          rw [Nat.testBit_shiftLeft] at h1
          simp only [Bool.and_eq_true, decide_eq_true_eq] at h1
          have h3 := h1.2
          rw [show (1 : Nat) = 2 ^ 0 from rfl, Nat.testBit_two_pow] at h3
          simp at h3
          omega
        · exact .inr ⟨e, by simp, hb, .inr h1⟩
    · exact .inr ⟨e', by simp [h1], h2⟩

theorem befores_get : ∀ (r : List Oper) (acc : List Nat) (j : Nat), j < acc.length → (befores r acc).getD j 0 = acc.getD j 0
  | [], acc, j, _ => rfl
  | o :: r, acc, j, h => by
    simp only [befores]
    rw [befores_get r _ j (by simp; omega)]
    simp only [List.getD_eq_getElem?_getD]
    rw [List.getElem?_append_left h]

theorem befores_new : ∀ (r : List Oper) (acc : List Nat) (i : Nat) (o : Oper), r[i]? = some o →
    ∃ acc', acc'.length = acc.length + i ∧ (befores r acc).getD (acc.length + i) 0 = maskOf acc' o ∧ ∀ j, j < acc.length + i → (befores r acc).getD j 0 = acc'.getD j 0
  | [], acc, i, o, h => by simp at h
  | o0 :: r, acc, 0, o, h => by
    simp only [List.getElem?_cons_zero, Option.some.injEq] at h
    subst h
    refine ⟨acc, rfl, ?_, fun j hj => ?_⟩
    · simp only [befores]
      rw [befores_get r _ _ (by simp)]
      simp only [List.getD_eq_getElem?_getD, Nat.add_zero]
      rw [List.getElem?_append_right (Nat.le_refl _)]
      simp [maskOf]
    · simp only [befores]
      rw [befores_get r _ _ (by simp; omega)]
      simp only [List.getD_eq_getElem?_getD]
      rw [List.getElem?_append_left (by omega)]
  | o0 :: r, acc, i + 1, o, h => by
    simp only [List.getElem?_cons_succ] at h
    simp only [befores]
    obtain ⟨acc', h1, h2, h3⟩ := befores_new r (acc ++ [o0.after.toList.foldl (fun s e => bif Region.binds .any e then s ||| (1 <<< e.on) ||| acc.getD e.on 0 else s) 0]) i o h
    simp only [List.length_append, List.length_singleton] at h1 h2 h3
    exact ⟨acc', by omega, by rw [show acc.length + (i + 1) = acc.length + 1 + i by omega]; exact h2, fun j hj => h3 j (by omega)⟩

theorem edges_lt : ∀ {ops : List Oper} {k : Nat}, edgesOk k ops = true → ∀ i o, ops[i]? = some o → ∀ e ∈ o.after, Region.binds .any e = true → e.on < k + i
  | [], _, _, i, o, h, _, _, _ => by simp at h
  | o0 :: r, k, h, 0, o, ho, e, he, hb => by
    simp only [edgesOk, Bool.and_eq_true, List.all_eq_true] at h
    simp only [List.getElem?_cons_zero, Option.some.injEq] at ho
    subst ho
    have := h.1 e (by simpa using he)
    rw [hb] at this
    simpa using this
  | o0 :: r, k, h, i + 1, o, ho, e, he, hb => by
    simp only [edgesOk, Bool.and_eq_true] at h
    have := edges_lt h.2 i o (by simpa using ho) e he hb
    omega

/-- What stands before an operation has been run, wherever the run stands. -/
theorem before_run {ops : List Oper} (hedge : edgesOk 0 ops = true) {S : Nat → Bool} (hdown : ∀ j o, ops[j]? = some o → S j = true → ∀ e ∈ o.after, Region.binds .any e = true → S e.on = true) :
    ∀ (j : Nat) (o : Oper) (a : Nat), ops[j]? = some o → (∀ e ∈ o.after, Region.binds .any e = true → S e.on = true) → ((befores ops []).getD j 0).testBit a = true → S a = true := by
  intro j
  induction j using Nat.strongRecOn with
  | _ j ih =>
    intro o a ho hS hbit
    obtain ⟨acc', h1, h2, h3⟩ := befores_new ops [] j o ho
    simp only [List.length_nil, Nat.zero_add] at h1 h2 h3
    rw [h2] at hbit
    rcases mask_bits _ _ hbit with h4 | ⟨e, he, hb, h4⟩
    · simp at h4
    · have he' : e ∈ o.after := by simpa using he
      have hlt := edges_lt hedge j o ho e he' hb
      rw [Nat.zero_add] at hlt
      rcases h4 with h4 | h4
      · rw [← h4]; exact hS e he' hb
      · rw [← h3 e.on hlt] at h4
        have hSe := hS e he' hb
        have hj : j < ops.length := (List.getElem?_eq_some_iff.1 ho).1
        have hon : ops[e.on]? = some ops[e.on] := List.getElem?_eq_getElem (by omega)
        exact ih e.on hlt ops[e.on] a hon (hdown e.on _ hon hSe) h4


theorem meets_iff {a b : List Nat} : meets a b = true ↔ ∃ x, x ∈ a ∧ x ∈ b := by
  unfold meets
  rw [List.any_eq_true]
  constructor
  · rintro ⟨x, hx, h⟩; exact ⟨x, hx, any_beq.1 h⟩
  · rintro ⟨x, hx, h⟩; exact ⟨x, hx, any_beq.2 h⟩

theorem mem_upFrom : ∀ (k a x : Nat), x ∈ upFrom a k ↔ a ≤ x ∧ x < a + k
  | 0, a, x => by simp [upFrom]
  | k + 1, a, x => by
    rw [upFrom, List.mem_cons, mem_upFrom k (a + 1) x]; omega

theorem mem_writes {s : Step} {x : Nat} (h : s.st.nxt ≤ s.n) : x ∈ s.writes ↔ x ∈ s.wr ∨ (s.st.nxt ≤ x ∧ x < s.n) := by
  unfold Step.writes
  rw [List.mem_append, mem_upFrom]
  constructor
  · rintro (h1 | h1)
    · exact .inl h1
    · right; omega
  · rintro (h1 | h1)
    · exact .inl h1
    · right; omega

theorem pT_some {s : Step} {t : Nat} : (pT s t).isSome ↔ s.o.dst = some t := by
  unfold pT
  cases s.o.dst with
  | none => simp
  | some d =>
    by_cases h : t = d
    · simp [h]
    · simp only [h, if_false, Option.isSome_none, Bool.false_eq_true, Option.some.injEq, false_iff]
      exact fun h' => h h'.symm

theorem look1_mem : ∀ {u : Store} {id : Nat}, (look1 u id).isSome → ∃ o, (id, o) ∈ u
  | [], id, h => by simp [look1] at h
  | (i, o) :: u, id, h => by
    simp only [look1] at h
    by_cases e : id = i
    · subst e; exact ⟨o, by simp⟩
    · rw [if_neg e] at h
      obtain ⟨o', ho'⟩ := look1_mem h
      exact ⟨o', by simp [ho']⟩

theorem count_set : ∀ (l : List Bool) (i : Nat), l[i]? = some false → ((l.set i true).filter (!·)).length + 1 = (l.filter (!·)).length
  | [], i, h => by simp at h
  | b :: l, 0, h => by
    simp only [List.getElem?_cons_zero, Option.some.injEq] at h
    subst h; simp
  | b :: l, i + 1, h => by
    have := count_set l i (by simpa using h)
    cases b <;> simp [this]

section
variable {ops : Array Oper} {Q : Exit → Act → World → Prop} {B : Base} {l : List Step} {st0 stm : St}

/-- Which names are given. -/
def given (st0 : St) (l : List Step) (S : Nat → Bool) (id : Nat) : Prop := id < st0.nxt ∨ ∃ (k : Nat) (s : Step), l[k]? = some s ∧ S k = true ∧ s.st.nxt ≤ id ∧ id < s.n

/-- What writes a name is told of it. -/
theorem keys_writes {s : Step} (hs : StepOK P ops.toList s) {id : Nat} (h : (pS s id).isSome) : id ∈ s.writes := by
  obtain ⟨o, ho⟩ := look1_mem h
  exact (mem_writes hs.nxt).2 (hs.keys id o ho)

theorem chain_any (hc : Chain P ops.toList st0 l stm) (hl : l.map (·.o) = ops.toList) (hfix : fixedOrder (befores ops.toList []) (recs 0 l).reverse = true) (hedge : edgesOk 0 ops.toList = true)
    (hdst : ∀ s ∈ l, ∀ d, s.o.dst = some d → d < st0.nt) (hQ : ∀ a' w', Now B stm a' w' → Q .normal a' w') (hB : B.n ≤ st0.nxt)
    (hlt0 : ∀ id sb, look st0.store id = some sb → id < st0.nxt) :
    ∀ (fuel : Nat) (listed : Array Bool) (a : Act) (w : World), listed.size = ops.size → (listed.toList.filter (!·)).length ≤ fuel →
      (∀ j o, ops[j]? = some o → listed.getD j false = true → ∀ e ∈ o.after, Region.binds .any e = true → listed.getD e.on false = true) →
      (∃ ρ T, Holds B (foldG pT (fun k => listed.getD k false) 0 l (get st0.tmps)) (foldG pS (fun k => listed.getD k false) 0 l (look st0.store))
        (given st0 l (fun k => listed.getD k false)) stm.dirty st0.nt a w ρ T) →
      wpAny P .any ops Q fuel listed a w := by
  have hlen : l.length = ops.size := by have := congrArg List.length hl; simpa using this
  have hops : ∀ (i : Nat) (s : Step), l[i]? = some s → ops[i]? = some s.o := by
    intro i s h
    have : (l.map (·.o))[i]? = some s.o := by simp [h]
    rw [hl] at this
    rw [← Array.getElem?_toList]; exact this
  have hends := chain_ends hc 0
  have hall : ∀ (listed : Array Bool) (a : Act) (w : World), listed.size = ops.size → (∀ k, k < ops.size → listed.getD k false = true) →
      (∃ ρ T, Holds B (foldG pT (fun k => listed.getD k false) 0 l (get st0.tmps)) (foldG pS (fun k => listed.getD k false) 0 l (look st0.store))
        (given st0 l (fun k => listed.getD k false)) stm.dirty st0.nt a w ρ T) → Q .normal a w := by
    rintro listed a w hsz hfull ⟨ρ, T, h⟩
    have hk : ∀ (k : Nat) (s : Step), l[k]? = some s → listed.getD k false = true := fun k s hs => hfull k (by have := (List.getElem?_eq_some_iff.1 hs).1; omega)
    have e1 : foldG pT (fun k => listed.getD k false) 0 l (get st0.tmps) = get stm.tmps := by
      rw [hends.tm]; funext t
      exact foldG_congr _ _ _ _ (fun k s hs _ => by rw [Nat.zero_add]; exact hk k s hs) rfl
    have e2 : foldG pS (fun k => listed.getD k false) 0 l (look st0.store) = look stm.store := by
      rw [hends.sf]; funext t
      exact foldG_congr _ _ _ _ (fun k s hs _ => by rw [Nat.zero_add]; exact hk k s hs) rfl
    have e3 : given st0 l (fun k => listed.getD k false) = fun id => id < stm.nxt := by
      funext id
      apply propext
      rw [hends.nxt id]
      unfold given
      constructor
      · rintro (h | ⟨k, s, h1, _, h2⟩)
        · exact .inl h
        · exact .inr ⟨k, s, h1, h2⟩
      · rintro (h | ⟨k, s, h1, h2⟩)
        · exact .inl h
        · exact .inr ⟨k, s, h1, hk k s h1, h2⟩
    rw [e1, e2, e3, ← hends.nt] at h
    exact hQ a w ⟨Nat.le_trans hB hends.le, ρ, T, h⟩
  -- where nothing is ready all has been run
  have hready : ∀ (listed : Array Bool), listed.size = ops.size → Region.ready .any ops listed = [] → ∀ k, k < ops.size → listed.getD k false = true := by
    intro listed hsz hr k
    induction k using Nat.strongRecOn with
    | _ k ih =>
      intro hk
      cases hlk : listed.getD k false with
      | true => rfl
      | false =>
        exfalso
        have hmem : k ∈ Region.ready .any ops listed := by
          rw [mem_ready]
          refine ⟨?_, ops[k], Array.getElem?_eq_getElem hk, fun e he hb => ?_⟩
          · simp only [Array.getD_eq_getD_getElem?] at hlk ⊢
            rw [Array.getElem?_eq_getElem (by omega)] at hlk ⊢
            exact hlk
          · have := edges_lt hedge k ops[k] (by rw [Array.getElem?_toList]; exact Array.getElem?_eq_getElem hk) e he hb
            exact ih e.on (by omega) (by omega)
        rw [hr] at hmem; cases hmem
  intro fuel
  induction fuel with
  | zero =>
    intro listed a w hsz hcount hdown hinv
    have hfull : ∀ k, k < ops.size → listed.getD k false = true := by
      intro k hk
      cases hlk : listed.getD k false with
      | true => rfl
      | false =>
        exfalso
        have hf : false ∈ listed.toList.filter (!·) := by
          rw [List.mem_filter]
          refine ⟨?_, rfl⟩
          have : listed[k]? = some false := by
            simp only [Array.getD_eq_getD_getElem?] at hlk
            rw [Array.getElem?_eq_getElem (by omega)] at hlk ⊢
            simpa using hlk
          exact Array.mem_def.1 (Array.mem_of_getElem? this)
        have := List.length_pos_of_mem hf
        omega
    refine ⟨?_, hall listed a w hsz hfull hinv⟩
    rw [List.eq_nil_iff_forall_not_mem]
    intro j hj
    rw [mem_ready] at hj
    obtain ⟨h1, o, ho, _⟩ := hj
    have hj' := (Array.getElem?_eq_some_iff.1 ho).1
    have h2 := hfull j hj'
    simp only [Array.getD_eq_getD_getElem?] at h1 h2
    rw [Array.getElem?_eq_getElem (by omega)] at h1 h2
    simp only [Option.getD_some] at h1 h2
    rw [h1] at h2; cases h2
  | succ fuel ih =>
    intro listed a w hsz hcount hdown hinv
    refine ⟨fun hr => hall listed a w hsz (hready listed hsz hr) hinv, fun i hi => ?_⟩
    rw [mem_ready] at hi
    obtain ⟨hi0, o, ho, hedges⟩ := hi
    have hilt : i < ops.size := (Array.getElem?_eq_some_iff.1 ho).1
    have hil : i < l.length := by omega
    obtain ⟨s, hs⟩ : ∃ s, l[i]? = some s := ⟨l[i], List.getElem?_eq_getElem hil⟩
    have hso : s.o = o := by have := hops i s hs; rw [ho] at this; cases this; rfl
    subst hso
    have hat := chain_at hc 0 i s hs
    have hattm := hat.tm
    have hatsf := hat.sf
    simp only [Nat.zero_add] at hattm hatsf
    have hSi : listed.getD i false = false := by
      simp only [Array.getD_eq_getD_getElem?] at hi0 ⊢
      rw [Array.getElem?_eq_getElem (by omega)] at hi0 ⊢
      exact hi0
    let S : Nat → Bool := fun k => listed.getD k false
    have hdownL : ∀ j o, ops.toList[j]? = some o → S j = true → ∀ e ∈ o.after, Region.binds .any e = true → S e.on = true := by
      intro j o hj; rw [Array.getElem?_toList] at hj; exact hdown j o hj
    -- what clashes with this operation has been run just if it stands before
    have hclash : ∀ (k : Nat) (s' : Step), l[k]? = some s' → k ≠ i → (∀ x y : Nat × Step, x = (k, s') ∨ y = (k, s') → x.1 < y.1 → (x = (i, s) ∨ y = (i, s)) → clash (x.2.toRec x.1) (y.2.toRec y.1) = true) → S k = decide (k < i) := by
      intro k s' hk hne hcl
      rcases Nat.lt_or_gt_of_ne hne with hlt | hgt
      · have hbit := fixed_clash hfix hk hs hlt (hcl (k, s') (i, s) (.inl rfl) hlt (.inr rfl))
        have := before_run hedge hdownL i s.o k (by rw [Array.getElem?_toList]; exact ho) hedges hbit
        rw [this]; simp [hlt]
      · have hbit := fixed_clash hfix hs hk hgt (hcl (i, s) (k, s') (.inr rfl) hgt (.inl rfl))
        cases hSk : S k with
        | false => simp; omega
        | true =>
          have hok := hops k s' hk
          have := before_run hedge hdownL k s'.o i (by rw [Array.getElem?_toList]; exact hok) (hdownL k s'.o (by rw [Array.getElem?_toList]; exact hok) hSk) hbit
          have h2 : S i = false := hSi
          rw [this] at h2; cases h2
    have hSi' : S i = decide (i < i) := by rw [show S i = false from hSi]; simp
    -- reads and writes of temporaries
    have hT : ∀ (t k : Nat) (s' : Step), l[k]? = some s' → s'.o.dst = some t → (t ∈ s.looks ∨ s.o.dst = some t) → S k = decide (k < i) := by
      intro t k s' hk hd ht
      by_cases hne : k = i
      · subst hne; exact hSi'
      · refine hclash k s' hk hne fun x y hx hlt hy => ?_
        have hcase : (x = (k, s') ∧ y = (i, s)) ∨ (x = (i, s) ∧ y = (k, s')) := by
          rcases hx with rfl | rfl <;> rcases hy with hy | hy
          · exact absurd (congrArg Prod.fst hy) hne
          · exact .inl ⟨rfl, hy⟩
          · exact .inr ⟨hy, rfl⟩
          · exact absurd (congrArg Prod.fst hy) hne
        rcases hcase with ⟨rfl, rfl⟩ | ⟨rfl, rfl⟩
        · rcases ht with ht | ht
          · have : s.looks.any (Nat.beq t) = true := any_beq.2 ht
            simp [clash, Step.toRec, hd, this]
          · simp [clash, Step.toRec, hd, ht]
        · rcases ht with ht | ht
          · have : s.looks.any (Nat.beq t) = true := any_beq.2 ht
            simp [clash, Step.toRec, hd, this]
          · simp [clash, Step.toRec, hd, ht]
    have hS' : ∀ (id k : Nat) (s' : Step), l[k]? = some s' → id ∈ s'.writes → (id ∈ s.rd ∨ id ∈ s.writes) → S k = decide (k < i) := by
      intro id k s' hk hd ht
      by_cases hne : k = i
      · subst hne; exact hSi'
      · refine hclash k s' hk hne fun x y hx hlt hy => ?_
        have hcase : (x = (k, s') ∧ y = (i, s)) ∨ (x = (i, s) ∧ y = (k, s')) := by
          rcases hx with rfl | rfl <;> rcases hy with hy | hy
          · exact absurd (congrArg Prod.fst hy) hne
          · exact .inl ⟨rfl, hy⟩
          · exact .inr ⟨hy, rfl⟩
          · exact absurd (congrArg Prod.fst hy) hne
        rcases hcase with ⟨rfl, rfl⟩ | ⟨rfl, rfl⟩
        · rcases ht with ht | ht
          · have : meets s'.writes s.rd = true := meets_iff.2 ⟨id, hd, ht⟩
            simp [clash, Step.toRec, this]
          · have : meets s'.writes s.writes = true := meets_iff.2 ⟨id, hd, ht⟩
            simp [clash, Step.toRec, this]
        · rcases ht with ht | ht
          · have : meets s.rd s'.writes = true := meets_iff.2 ⟨id, ht, hd⟩
            simp [clash, Step.toRec, this]
          · have : meets s.writes s'.writes = true := meets_iff.2 ⟨id, ht, hd⟩
            simp [clash, Step.toRec, this]
    have hkw : ∀ (k : Nat) (s' : Step) (id : Nat), l[k]? = some s' → (pS s' id).isSome → id ∈ s'.writes := by
      intro k s' id hk hp
      exact keys_writes (chain_at hc 0 k s' hk).ok hp
    obtain ⟨ρ, T, h⟩ := hinv
    let S1 : Nat → Bool := fun k => (listed.setIfInBounds i true).getD k false
    have hS1i : S1 i = true := by
      show (listed.setIfInBounds i true).getD i false = true
      rw [Array.getD_eq_getD_getElem?, Array.getElem?_setIfInBounds_self_of_lt (by omega)]; rfl
    have hS1 : ∀ k, k ≠ i → S1 k = S k := by
      intro k hk
      show (listed.setIfInBounds i true).getD k false = listed.getD k false
      rw [Array.getD_eq_getD_getElem?, Array.getD_eq_getD_getElem?, Array.getElem?_setIfInBounds_ne (Ne.symm hk)]
    have hlts := hat.scope hlt0
    refine op_step hat.ok ho h ?_ ?_ ?_ (Nat.le_trans hB hat.lo) (hdst s (List.mem_of_getElem? hs)) hlts (D' := stm.dirty) (A' := given st0 l S1) (fun _ h => h) hat.wr ?_ ?_
    · intro t ht
      rw [hattm]
      refine foldG_congr _ _ _ _ (fun k s' hk hp => ?_) rfl
      rw [Nat.zero_add]
      exact hT t k s' hk (pT_some.1 hp) (.inl ht)
    · intro id hid
      rw [hatsf]
      refine foldG_congr _ _ _ _ (fun k s' hk hp => ?_) rfl
      rw [Nat.zero_add]
      exact hS' id k s' hk (hkw k s' id hk hp) (hid.imp (fun h => h) fun h => (mem_writes hat.ok.nxt).2 (.inl h))
    · intro id h1 h2 h3
      rcases h3 with h3 | ⟨k, s', hk, hSk, h4, h5⟩
      · have := hat.lo; omega
      · have hatk := chain_at hc 0 k s' hk
        rcases Nat.lt_trichotomy k i with h6 | h6 | h6
        · have := hatk.after i s hs h6; omega
        · subst h6
          have : S k = false := hSi
          have hSk' : S k = true := hSk
          rw [this] at hSk'; cases hSk'
        · have := hat.after k s' hk h6; omega
    · intro id
      unfold given
      constructor
      · rintro (h1 | ⟨k, s', hk, hSk, h4⟩)
        · exact .inl (.inl h1)
        · by_cases hki : k = i
          · subst hki
            rw [hs] at hk; cases hk
            exact .inr h4
          · exact .inl (.inr ⟨k, s', hk, (hS1 k hki).symm.trans hSk, h4⟩)
      · rintro ((h1 | ⟨k, s', hk, hSk, h4⟩) | h1)
        · exact .inl h1
        · have hki : k ≠ i := by
            rintro rfl
            have : S k = false := hSi
            have hSk' : S k = true := hSk
            rw [this] at hSk'; cases hSk'
          exact .inr ⟨k, s', hk, (hS1 k hki).trans hSk, h4⟩
        · exact .inr ⟨i, s, hs, hS1i, h1⟩
    · intro a' w' ρ' T' h1
      refine ih (listed.setIfInBounds i true) a' w' (by simpa using hsz) ?_ ?_ ⟨ρ', T', ?_⟩
      · have h2 : listed.toList[i]? = some false := by
          rw [Array.getElem?_toList]
          rw [Array.getD_eq_getD_getElem?, Array.getElem?_eq_getElem (by omega)] at hSi
          rw [Array.getElem?_eq_getElem (by omega)]
          simpa using hSi
        have := count_set _ _ h2
        rw [Array.toList_setIfInBounds]
        omega
      · intro j o' hj hSj e he hb
        by_cases hji : j = i
        · subst hji
          rw [ho] at hj; cases hj
          have := hedges e he hb
          by_cases heq : e.on = j
          · rw [heq]; exact hS1i
          · have h9 := hS1 e.on heq
            show S1 e.on = true
            rw [h9]; exact this
        · have h8 : S j = true := by rw [← hS1 j hji]; exact hSj
          have := hdown j o' hj h8 e he hb
          by_cases heq : e.on = i
          · rw [heq]; exact hS1i
          · show S1 e.on = true
            rw [hS1 e.on heq]; exact this
      · have e1 : foldG pT S1 0 l (get st0.tmps) = upd (foldG pT S 0 l (get st0.tmps)) s.o.dst s.v := by
          rw [upd_pT]
          funext t
          refine foldG_ins hs hS1 hS1i hSi fun hp k s' hk hlt hp' => ?_
          have := hT t k s' hk (pT_some.1 hp') (.inr (pT_some.1 hp))
          rw [this]; simp; omega
        have e2 : foldG pS S1 0 l (look st0.store) = updS (foldG pS S 0 l (look st0.store)) s.u := by
          rw [updS_pS]
          funext id
          refine foldG_ins hs hS1 hS1i hSi fun hp k s' hk hlt hp' => ?_
          have := hS' id k s' hk (hkw k s' id hk hp') (.inr (hkw i s id hs hp))
          rw [this]; simp; omega
        rw [e1, e2]
        exact h1

end
end Go.Se
