/- Part 9: calls, by what is known of them. -/
import Derived.Test.YtheedafdaolooaaSeBuiltin
namespace Go.Se
variable {P : Program}

abbrev KC := SV → List (Option SB) → List Nat → Prop

/-- What a call has come to. -/
structure CallDone (ρ : Names) (T : Nat → Prop) (w : World) (σ : List (Option SB)) (v : SV) (σ' : List (Option SB)) (d : List Nat) (ρ' : Names) (T' : Nat → Prop) (w' : World) (x : Value) : Prop where
  names : ∀ p b, ρ p = some b → ρ' p = some b
  only : ∀ p b, ρ' p = some b → p < σ'.length
  len : σ.length ≤ σ'.length
  val : rel ρ' T' w' v x
  store : ∀ p sb, σ'[p]? = some (some sb) → ∃ b, ρ' p = some b ∧ T' b ∧ relB ρ' T' w' sb b
  fresh : ∀ p b, σ.length ≤ p → ρ' p = some b → w.heap.size ≤ b ∨ ∃ q, q ∈ d ∧ σ'[q]? = some none ∧ ρ q = some b
  inj : ∀ p q b, σ.length ≤ p → σ.length ≤ q → ρ' p = some b → ρ' q = some b → p = q
  dirty : ∀ p, p ∈ d → p < σ.length
  grow : Grow (fun b => ∃ p, p ∈ d ∧ ρ p = some b) w w'
  tback : ∀ b, b < w.heap.size → T' b → T b
  below : ∀ p b, ρ' p = some b → b < w'.heap.size
  tkeep : ∀ b, b < w.heap.size → T b → T' b ∨ ∃ q, q ∈ d ∧ σ'[q]? = some none ∧ ρ q = some b

/-- A call that comes to such an end: of Go's text, or of what the model has for it. -/
def Runs (P : Program) (k : FuncId) (vals : Array Value) (w : World) (R : Value → World → Prop) : Prop :=
  (∃ fn, P.funcs[k]? = some fn ∧ fn.body.isNone = false ∧ (fn.name == "runtime.NumGoroutine") = false ∧ Calls P k vals w fun e w' => ∃ x, e = .returned x ∧ R x w') ∨
  (∃ x w', (callFunc k vals).run P w = .ok (.value x) w' ∧ R x w')

def CallOK (P : Program) (k : FuncId) (xs : List SV) (σ : List (Option SB)) (v : SV) (σ' : List (Option SB)) (d : List Nat) : Prop :=
  ∀ (ρ : Names) (T : Nat → Prop) (w : World) (vals : Array Value), relL ρ T w xs vals.toList →
    (∀ p, p < σ.length → ∃ sb b, σ[p]? = some (some sb) ∧ ρ p = some b ∧ T b ∧ relB ρ T w sb b) →
    (∀ i j b, ρ i = some b → ρ j = some b → i = j) →
    (∀ p b, ρ p = some b → p < σ.length ∧ b < w.heap.size) →
    Runs P k vals w fun x w' => ∃ ρ' T', CallDone ρ T w σ v σ' d ρ' T' w' x

/-- What is told of a call (Φ) holds of it. -/
def Sat (P : Program) (k : FuncId) (xs : List SV) (σ : List (Option SB)) (Φ : KC → Prop) : Prop :=
  ∀ K, Φ K → ∃ v σ' d, K v σ' d ∧ CallOK P k xs σ v σ' d

theorem idx_some {l : List Nat} {i : Nat} : ∀ {k p : Nat}, idx l i k = some p → k ≤ p ∧ l[p - k]? = some i := by
  induction l with
  | nil => intro k p h; simp [idx] at h
  | cons j l ih =>
    intro k p h
    simp only [idx] at h
    cases hb : Nat.beq j i with
    | true =>
      rw [hb] at h
      simp only [cond_true, Option.some.injEq] at h
      subst h
      simp [Nat.eq_of_beq_eq_true hb]
    | false =>
      rw [hb] at h
      obtain ⟨h1, h2⟩ := ih h
      refine ⟨by omega, ?_⟩
      rw [show p - k = (p - (k + 1)) + 1 by omega, List.getElem?_cons_succ]
      exact h2

mutual
theorem rel_ren {T : Nat → Prop} {w : World} {ρ ρ2 : Names} {f : Nat → Option Nat} (h : ∀ i j b, f i = some j → ρ i = some b → ρ2 j = some b) :
    ∀ (a : SV) (v : Value), rel ρ T w a v → rel ρ2 T w (ren f a) v
  | .junk, _, _ => trivial
  | .int _ _, _, h => h
  | .bool _, _, h => h
  | .str _, _, h => h
  | .nilp, _, h => h
  | .ptr id off, v, ⟨b, h1, h2⟩ => by
    simp only [ren]
    cases hf : f id with
    | none => trivial
    | some j => exact ⟨b, h _ _ _ hf h1, h2⟩
  | .rptr cs, v, h => h
  | .fn g x y, v, ⟨a, c, h1, h2, h3⟩ => ⟨a, c, h1, relL_ren h x _ h2, relL_ren h y _ h3⟩
  | .nilfn, _, h => h
  | .agg cs, v, ⟨a, h1, h2⟩ => ⟨a, h1, relL_ren h cs _ h2⟩
  | .tup cs, v, ⟨a, h1, h2⟩ => ⟨a, h1, relL_ren h cs _ h2⟩
  | .nils, _, h => h
  | .arr id off len cap, v, ⟨⟨b, h1, h2⟩, h3⟩ => by
    simp only [ren]
    cases hf : f id with
    | none => trivial
    | some j => exact ⟨⟨b, h _ _ _ hf h1, h2⟩, h3⟩
  | .own id st len, v, ⟨b, c, h1, h2⟩ => by
    simp only [ren]
    cases hf : f id with
    | none => trivial
    | some j => exact ⟨b, c, h _ _ _ hf h1, h2⟩
  | .ro len st g, v, h => h
  | .nilI, _, h => h
  | .iface t x, v, ⟨y, h1, h2⟩ => ⟨y, h1, rel_ren h x y h2⟩
theorem relL_ren {T : Nat → Prop} {w : World} {ρ ρ2 : Names} {f : Nat → Option Nat} (h : ∀ i j b, f i = some j → ρ i = some b → ρ2 j = some b) :
    ∀ (l : List SV) (m : List Value), relL ρ T w l m → relL ρ2 T w (ren.renL f l) m
  | [], _, h => h
  | a :: l, m, ⟨v, r, h1, h2, h3⟩ => ⟨v, r, h1, rel_ren h a v h2, relL_ren h l r h3⟩
end

theorem relB_ren {T : Nat → Prop} {w : World} {ρ ρ2 : Names} {f : Nat → Option Nat} (h : ∀ i j b, f i = some j → ρ i = some b → ρ2 j = some b) {sb : SB} {b : Nat}
    (hb : relB ρ T w sb b) : relB ρ2 T w (renB f sb) b := by
  cases sb with
  | cells e cs => obtain ⟨vs, h1, h2⟩ := hb; exact ⟨vs, h1, relL_ren h _ _ h2⟩
  | lst e cs => obtain ⟨vs, h1, m, r, h2, h3⟩ := hb; exact ⟨vs, h1, m, r, h2, relL_ren h _ _ h3⟩
  | row e st len g => exact hb

theorem any_beq {l : List Nat} {i : Nat} : l.any (Nat.beq i) = true ↔ i ∈ l := by
  rw [List.any_eq_true]
  constructor
  · rintro ⟨x, hx, h⟩; rw [Nat.eq_of_beq_eq_true h]; exact hx
  · intro h; exact ⟨i, h, Nat.beq_refl i⟩

theorem nodup_inj {l : List Nat} (h : l.Nodup) {i j : Nat} (hi : i < l.length) (hj : j < l.length) (e : l[i] = l[j]) : i = j := by
  have hp := List.pairwise_iff_getElem.1 h
  rcases Nat.lt_trichotomy i j with hlt | heq | hgt
  · exact absurd e (hp i j hi hj hlt)
  · exact heq
  · exact absurd e.symm (hp j i hj hi hgt)

theorem reach_ok {s : Store} : ∀ (n : Nat) (l acc : List Nat), acc.Nodup → (∀ i ∈ acc, ∃ sb, look s i = some sb) →
    (reach s n l acc).Nodup ∧ ∀ i ∈ reach s n l acc, ∃ sb, look s i = some sb
  | 0, l, acc, h1, h2 => by simpa [reach] using ⟨h1, h2⟩
  | n + 1, [], acc, h1, h2 => by simpa [reach] using ⟨h1, h2⟩
  | n + 1, i :: l, acc, h1, h2 => by
    simp only [reach]
    cases hb : acc.any (Nat.beq i) with
    | true => exact reach_ok n l acc h1 h2
    | false =>
      simp only [cond_false]
      have hni : i ∉ acc := by rw [← any_beq, hb]; simp
      split
      · rename_i sb hl
        refine reach_ok n _ _ ?_ ?_
        · rw [List.nodup_append]
          refine ⟨h1, by simp, ?_⟩
          intro a ha b hb'
          simp only [List.mem_singleton] at hb'
          rintro rfl
          exact hni (hb' ▸ ha)
        · intro j hj
          rcases List.mem_append.1 hj with hj | hj
          · exact h2 j hj
          · simp only [List.mem_singleton] at hj; subst hj; exact ⟨sb, hl⟩
      · exact reach_ok n l acc h1 h2

theorem backStore_mem {f : Nat → Option Nat} {F : List Nat} {nxt : Nat} {d : List Nat} : ∀ (σ : List (Option SB)) (p : Nat) (id : Nat) (ob : Option SB),
    (id, ob) ∈ backStore f F nxt d p σ → ∃ q o, p ≤ q ∧ σ[q - p]? = some o ∧ ob = o.map (renB f) ∧
      ((F[q]? = some id ∧ q ∈ d) ∨ (F[q]? = none ∧ id = nxt + (q - F.length)))
  | [], p, id, ob, h => by simp [backStore] at h
  | b :: l, p, id, ob, h => by
    have next : (id, ob) ∈ backStore f F nxt d (p + 1) l → ∃ q o, p ≤ q ∧ (b :: l)[q - p]? = some o ∧ ob = o.map (renB f) ∧
      ((F[q]? = some id ∧ q ∈ d) ∨ (F[q]? = none ∧ id = nxt + (q - F.length))) := by
      intro h
      obtain ⟨q, o, h1, h2, h3⟩ := backStore_mem l (p + 1) id ob h
      refine ⟨q, o, by omega, ?_, h3⟩
      rw [show q - p = (q - (p + 1)) + 1 by omega, List.getElem?_cons_succ]
      exact h2
    simp only [backStore] at h
    split at h
    · rename_i i hi
      cases hd : d.any (Nat.beq p) with
      | false => rw [hd] at h; exact next h
      | true =>
        rw [hd] at h
        simp only [cond_true, List.mem_cons, Prod.mk.injEq] at h
        rcases h with ⟨rfl, rfl⟩ | h
        · exact ⟨p, b, Nat.le_refl _, by simp, rfl, .inl ⟨hi, any_beq.1 hd⟩⟩
        · exact next h
    · rename_i hi
      simp only [List.mem_cons, Prod.mk.injEq] at h
      rcases h with ⟨rfl, rfl⟩ | h
      · exact ⟨p, b, Nat.le_refl _, by simp, rfl, .inr ⟨hi, rfl⟩⟩
      · exact next h

theorem backStore_dead {f : Nat → Option Nat} {F : List Nat} {nxt : Nat} {d : List Nat} : ∀ (σ : List (Option SB)) (p q i : Nat),
    p ≤ q → σ[q - p]? = some none → F[q]? = some i → q ∈ d → (i, none) ∈ backStore f F nxt d p σ
  | [], p, q, i, _, h, _, _ => by simp at h
  | b :: l, p, q, i, hp, h, hi, hd => by
    simp only [backStore]
    by_cases e : q = p
    · subst e
      simp only [Nat.sub_self, List.getElem?_cons_zero, Option.some.injEq] at h
      subst h
      rw [hi]
      simp only [any_beq.2 hd, cond_true, Option.map_none, List.mem_cons, true_or]
    · have ih := backStore_dead (f := f) (nxt := nxt) l (p + 1) q i (by omega) (by rw [show q - p = (q - (p + 1)) + 1 by omega, List.getElem?_cons_succ] at h; exact h) hi hd
      split
      · cases d.any (Nat.beq p)
        · exact ih
        · exact List.mem_cons_of_mem _ ih
      · exact List.mem_cons_of_mem _ ih

theorem backStore_cover {f : Nat → Option Nat} {F : List Nat} {nxt : Nat} {d : List Nat} : ∀ (σ : List (Option SB)) (p q i : Nat),
    p ≤ q → q - p < σ.length → F[q]? = some i → q ∈ d → ∃ o, (i, o) ∈ backStore f F nxt d p σ
  | [], p, q, i, _, h, _, _ => by simp at h
  | b :: l, p, q, i, hp, h, hi, hd => by
    simp only [backStore]
    by_cases e : q = p
    · subst e
      rw [hi]
      exact ⟨_, by simp only [any_beq.2 hd, cond_true]; exact List.mem_cons_self⟩
    · obtain ⟨o, ih⟩ := backStore_cover (f := f) (nxt := nxt) l (p + 1) q i (by omega) (by simp only [List.length_cons] at h; omega) hi hd
      refine ⟨o, ?_⟩
      split
      · cases d.any (Nat.beq p)
        · exact ih
        · exact List.mem_cons_of_mem _ ih
      · exact List.mem_cons_of_mem _ ih

section
variable {st : St} {o : Oper} {K : KV} {env : Env}

theorem good_call {c : Call} {f : Operand} {k : FuncId} {first cap : List SV} (hs : ∀ xs σ, Sat P k xs σ (env.callee k xs σ)) (ho : o.op = .call c) (hc : c.callee = .value f)
    (hf : eval st.tmps f = .fn (.func k) first cap) (h : callE env st k (first ++ c.args.toList.map (eval st.tmps) ++ cap) K) : Good P st o K := by
  unfold callE at h
  generalize hxs : first ++ c.args.toList.map (eval st.tmps) ++ cap = xs at h
  obtain ⟨hnd, halive⟩ := reach_ok (s := st.store) 200 (ids.idsL xs) [] List.nodup_nil (by simp)
  simp only at h
  generalize hF : reach st.store 200 (ids.idsL xs) [] = F at h hnd halive
  obtain ⟨v, σ', d, hK, hok⟩ := hs _ _ _ h
  refine ⟨_, _, _, _, _, hK, Nat.le_add_right _ _, ?_, ?_, ?_, ?_⟩
  · intro id hid
    rcases hid with hid | hid
    · exact halive id hid
    · obtain ⟨p, _, hp⟩ := List.mem_filterMap.1 hid
      exact halive id (List.mem_of_getElem? hp)
  · intro hlt id x y hx hy
    obtain ⟨q, o1, _, hq, rfl, hc1⟩ := backStore_mem _ _ _ _ hx
    obtain ⟨q', o2, _, hq', rfl, hc2⟩ := backStore_mem _ _ _ _ hy
    rw [Nat.sub_zero] at hq hq'
    have ge : ∀ q, F[q]? = none → F.length ≤ q := by
      intro q h6
      rcases Nat.lt_or_ge q F.length with h | h
      · rw [List.getElem?_eq_getElem h] at h6; cases h6
      · exact h
    have hqq : q = q' := by
      rcases hc1 with ⟨h1, _⟩ | ⟨h1, h2⟩ <;> rcases hc2 with ⟨h3, _⟩ | ⟨h3, h4⟩
      · obtain ⟨hi', hx'⟩ := List.getElem?_eq_some_iff.1 h1
        obtain ⟨hj', hy'⟩ := List.getElem?_eq_some_iff.1 h3
        exact nodup_inj hnd hi' hj' (hx'.trans hy'.symm)
      · obtain ⟨sb, hsb⟩ := halive id (List.mem_of_getElem? h1)
        have := hlt id sb hsb
        omega
      · obtain ⟨sb, hsb⟩ := halive id (List.mem_of_getElem? h3)
        have := hlt id sb hsb
        omega
      · have := ge q h1; have := ge q' h3; omega
    subst hqq
    rw [hq] at hq'
    cases hq'
    rfl
  · intro id ob hid
    obtain ⟨q, o', _, hq, _, hcase⟩ := backStore_mem _ _ _ _ hid
    rw [Nat.sub_zero] at hq
    rcases hcase with ⟨h6, h7⟩ | ⟨h6, h7⟩
    · left
      exact List.mem_filterMap.2 ⟨q, h7, h6⟩
    · right
      have hq' := (List.getElem?_eq_some_iff.1 hq).1
      have : F.length ≤ q := by
        rcases Nat.lt_or_ge q F.length with h | h
        · rw [List.getElem?_eq_getElem h] at h6; cases h6
        · exact h
      omega
  · intro ρ T a w next Q hr hb hinj hold hnew hnext
    have hσlen : (F.map fun i => (look st.store i).map (renB fun i => idx F i 0)).length = F.length := by simp
    -- the caller's names, by place
    let ρc : Names := fun p => (F[p]?).bind ρ
    have hren : ∀ i j b, (fun i => idx F i 0) i = some j → ρ i = some b → ρc j = some b := by
      intro i j b hi hρ
      obtain ⟨_, hj⟩ := idx_some hi
      show (F[j]?).bind ρ = some b
      rw [Nat.sub_zero] at hj
      rw [hj]; exact hρ
    have hfv : ∃ a1 a2, a.eval f = .func (.func k) a1 a2 ∧ relL ρ T w first a1.toList ∧ relL ρ T w cap a2.toList := by
      have := hr f (by simp [ho, Op.operands, Call.operands, hc])
      rw [hf] at this
      exact this
    obtain ⟨a1, a2, hfe, h1, h2⟩ := hfv
    have hargs : relL ρ T w xs (a1 ++ c.args.map a.eval ++ a2).toList := by
      rw [← hxs, Array.toList_append, Array.toList_append]
      refine relL_append (relL_append h1 ?_) h2
      rw [Array.toList_map]
      refine relL_map _ fun x hx => hr x ?_
      simp only [ho, Op.operands, Call.operands, hc]
      exact Array.mem_append.2 (Or.inr (Array.mem_def.2 hx))
    have hruns := hok ρc T w (a1 ++ c.args.map a.eval ++ a2) (relL_ren hren _ _ hargs)
      (by
        intro p hp
        rw [hσlen] at hp
        obtain ⟨sb, b, h3, h4, h5, h6⟩ := hb F[p] (.inl (List.getElem_mem hp))
        refine ⟨renB (fun i => idx F i 0) sb, b, ?_, ?_, h5, relB_ren hren h6⟩
        · rw [List.getElem?_map, List.getElem?_eq_getElem hp, Option.map_some, h3]; rfl
        · show (F[p]?).bind ρ = some b
          rw [List.getElem?_eq_getElem hp]; exact h4)
      (by
        intro i j b hi hj
        obtain ⟨x, hx, hxb⟩ := Option.bind_eq_some_iff.1 hi
        obtain ⟨y, hy, hyb⟩ := Option.bind_eq_some_iff.1 hj
        have hxy := hinj x y b (.inl (List.mem_of_getElem? hx)) (.inl (List.mem_of_getElem? hy)) hxb hyb
        subst hxy
        obtain ⟨hi', hx'⟩ := List.getElem?_eq_some_iff.1 hx
        obtain ⟨hj', hy'⟩ := List.getElem?_eq_some_iff.1 hy
        exact nodup_inj hnd hi' hj' (hx'.trans hy'.symm))
      (by
        intro p b hp
        obtain ⟨x, hx, hxb⟩ := Option.bind_eq_some_iff.1 hp
        rw [hσlen]
        exact ⟨(List.getElem?_eq_some_iff.1 hx).1, hold _ _ hxb⟩)
    -- what the call leaves, by the caller's names
    have hdone : ∀ x w', (∃ ρ' T', CallDone ρc T w (F.map fun i => (look st.store i).map (renB fun i => idx F i 0)) v σ' d ρ' T' w' x) →
        next (a.put o.dst x) w' := by
      rintro x w' ⟨ρ', T', hd⟩
      have hlen : F.length ≤ σ'.length := by have := hd.len; rw [hσlen] at this; exact this
      let ρ'' : Names := fun id => if st.nxt ≤ id ∧ id < st.nxt + (σ'.length - F.length) then ρ' (F.length + (id - st.nxt)) else ρ id
      have hnames : ∀ id b, ρ id = some b → ρ'' id = some b := by
        intro id b hid
        show (if _ then _ else _) = _
        rw [if_neg]; · exact hid
        rintro ⟨h3, h4⟩
        rw [hnew id h3 h4] at hid; cases hid
      have hF' : ∀ p i, F[p]? = some i → ∀ b, ρ' p = some b → ρ i = some b := by
        intro p i hp b hb'
        obtain ⟨sb, c', _, h4, _⟩ := hb i (.inl (List.mem_of_getElem? hp))
        have : ρc p = some c' := by show (F[p]?).bind ρ = _; rw [hp]; exact h4
        rw [hd.names p c' this] at hb'
        rw [h4]; exact hb'
      have hback : ∀ p j b, backName F st.nxt p = some j → ρ' p = some b → ρ'' j = some b := by
        intro p j b hp hb'
        unfold backName at hp
        split at hp
        · rename_i i hi
          cases hp
          exact hnames _ _ (hF' p _ hi b hb')
        · rename_i hi
          cases hp
          have hp1 : F.length ≤ p := by
            rcases Nat.lt_or_ge p F.length with h | h
            · rw [List.getElem?_eq_getElem h] at hi; cases hi
            · exact h
          have hp2 := hd.only p b hb'
          show (if _ then _ else _) = _
          rw [if_pos ⟨by omega, by omega⟩, show F.length + (st.nxt + (p - F.length) - st.nxt) = p by omega]
          exact hb'
      refine hnext x w' ρ'' T' {
        names := hnames
        only := fun id b hid => ?_
        val := rel_ren hback _ _ hd.val
        turned := fun id sb hid => ?_
        keys := fun id ob hid => ?_
        cover := fun id hid => ?_
        fresh := fun id b h3 h4 h5 => ?_
        inj := fun i j b h3 h4 h5 h6 h7 h8 => ?_
        grow := hd.grow.mono fun b _ hb' => ?_
        tback := hd.tback
        below := fun id b h3 h4 h5 => hd.below _ b (by rw [← h5]; exact (if_pos ⟨h3, h4⟩).symm)
        tkeep := fun b hlt hb' => ?_ }
      · by_cases hin : st.nxt ≤ id ∧ id < st.nxt + (σ'.length - F.length)
        · exact .inr hin
        · left
          have : ρ'' id = ρ id := if_neg hin
          rw [this] at hid; exact hid
      · obtain ⟨q, ob, _, hq, hob, hcase⟩ := backStore_mem _ _ _ _ hid
        rw [Nat.sub_zero] at hq
        cases ob with
        | none => simp at hob
        | some sb0 =>
          simp only [Option.map_some, Option.some.injEq] at hob
          subst hob
          obtain ⟨b, h3, h4, h5⟩ := hd.store q sb0 hq
          refine ⟨b, ?_, h4, relB_ren hback h5⟩
          apply hback q _ b _ h3
          unfold backName
          rcases hcase with ⟨h6, _⟩ | ⟨h6, h7⟩
          · rw [h6]
          · rw [h6, h7]
      · obtain ⟨q, o', _, hq, _, hcase⟩ := backStore_mem _ _ _ _ hid
        rw [Nat.sub_zero] at hq
        rcases hcase with ⟨h6, h7⟩ | ⟨h6, h7⟩
        · left
          exact List.mem_filterMap.2 ⟨q, h7, h6⟩
        · right
          have hq' := (List.getElem?_eq_some_iff.1 hq).1
          have : F.length ≤ q := by
            rcases Nat.lt_or_ge q F.length with h | h
            · rw [List.getElem?_eq_getElem h] at h6; cases h6
            · exact h
          omega
      · obtain ⟨q, hq, hqi⟩ := List.mem_filterMap.1 hid
        have hq1 := hd.dirty q hq
        have hq2 := hd.len
        exact backStore_cover _ 0 q id (Nat.zero_le _) (by omega) hqi hq
      · have h6 : ρ' (F.length + (id - st.nxt)) = some b := by
          have : ρ'' id = ρ' (F.length + (id - st.nxt)) := if_pos ⟨h3, h4⟩
          rw [← this]; exact h5
        rcases hd.fresh _ b (by rw [hσlen]; omega) h6 with h7 | ⟨q, h7, h8, h9⟩
        · exact .inl h7
        · right
          obtain ⟨i, hi, hib⟩ := Option.bind_eq_some_iff.1 h9
          exact ⟨i, List.mem_filterMap.2 ⟨q, h7, hi⟩, backStore_dead _ 0 q i (Nat.zero_le _) (by rw [Nat.sub_zero]; exact h8) hi h7, hib⟩
      · have e1 : ρ'' i = ρ' (F.length + (i - st.nxt)) := if_pos ⟨h3, h4⟩
        have e2 : ρ'' j = ρ' (F.length + (j - st.nxt)) := if_pos ⟨h5, h6⟩
        rw [e1] at h7; rw [e2] at h8
        have := hd.inj _ _ b (by rw [hσlen]; omega) (by rw [hσlen]; omega) h7 h8
        omega
      · obtain ⟨p, hp, hpb⟩ := hb'
        obtain ⟨i, hi, hib⟩ := Option.bind_eq_some_iff.1 hpb
        exact ⟨i, List.mem_filterMap.2 ⟨p, hp, hi⟩, hib⟩
      · rcases hd.tkeep b hlt hb' with h3 | ⟨q, h7, h8, h9⟩
        · exact .inl h3
        · right
          obtain ⟨i, hi, hib⟩ := Option.bind_eq_some_iff.1 h9
          exact ⟨i, List.mem_filterMap.2 ⟨q, h7, hi⟩, backStore_dead _ 0 q i (Nat.zero_le _) (by rw [Nat.sub_zero]; exact h8) hi h7, hib⟩
    have hexec : execOp a.eval o = callFunc k (a1 ++ c.args.map a.eval ++ a2) := by
      simp only [execOp, ho, resolve, hc, hfe, Deferred.ofValue]
      rfl
    rcases hruns with ⟨fn, hfn, hbody, hname, hcalls⟩ | ⟨x, w', hrun, hR⟩
    · have hrun : (execOp a.eval o).run P w = .ok (.enter k (a1 ++ c.args.map a.eval ++ a2)) w := by
        rw [hexec]
        simp only [callFunc, Sem.run_bind, run_program, Result.andThen_ok, hfn, hname, Bool.false_eq_true, if_false, hbody, Sem.run_pure]
      unfold Oper.wp
      rw [hrun, Oper.upon_enter]
      refine hcalls.mono fun e w' he => ?_
      obtain ⟨x, rfl, hR⟩ := he
      exact hdone x w' hR
    · exact wp_value (by rw [hexec]; exact hrun) (hdone x w' hR)

end
end Go.Se
