/- Part 14: statements and functions. -/
import Derived.Test.YtheedafdaolooaaSeAny
namespace Go.Se
variable {P : Program}

theorem now_start {B : Base} {st : St} {a : Act} {w : World} (h : Now B st a w) : Now B st a { w with drawn := w.drawn + 1 } := by
  obtain ⟨hB, ρ, T, h⟩ := h
  have hG : Grow (fun _ => False) w { w with drawn := w.drawn + 1 } := ⟨Nat.le_refl _, fun _ _ _ => rfl, fun b vs e f hb => ⟨vs, f, hb, rfl⟩, rfl, rfl, rfl⟩
  have hGT : Grow T w { w with drawn := w.drawn + 1 } := hG.mono fun _ _ h => h.elim
  refine ⟨hB, ρ, T, { h with
    tmps := fun t => rel_mono (fun _ _ h => h) (fun _ _ h => h) hGT _ _ (h.tmps t)
    store := fun id sb hid => by
      obtain ⟨h1, b, h2, h3, h4⟩ := h.store id sb hid
      exact ⟨h1, b, h2, h3, relB_mono (fun _ _ h => h) (fun _ _ h => h) hGT rfl h4⟩
    names := h.names
    grow := h.grow.trans hG fun _ _ h => h.elim }⟩

theorem now_lt {B : Base} {st : St} {a : Act} {w : World} (h : Now B st a w) : ∀ id sb, look st.store id = some sb → id < st.nxt := by
  obtain ⟨_, ρ, T, h⟩ := h
  exact fun id sb hid => (h.store id sb hid).1

theorem now_same {B : Base} {st st' : St} {a : Act} {w : World} (hs : Same st st') (h : Now B st a w) : Now B st' a w := by
  obtain ⟨hB, ρ, T, h⟩ := h
  have ht : get st.tmps = get st'.tmps := funext hs.tmps
  rw [ht, hs.store, hs.nxt, hs.dirty, hs.nt] at h
  exact ⟨by rw [← hs.nxt]; exact hB, ρ, T, h⟩

theorem dstsOk_elim {nt : Nat} {l : List Step} {ops : List Oper} (hl : l.map (·.o) = ops) (h : dstsOk nt ops = true) : ∀ s ∈ l, ∀ d, s.o.dst = some d → d < nt := by
  intro s hs d hd
  unfold dstsOk at h
  rw [List.all_eq_true] at h
  have := h s.o (by rw [← hl]; exact List.mem_map.2 ⟨s, hs, rfl⟩)
  rw [hd] at this
  simpa using this

theorem region_ok {env : Env} (he : EnvOK P env) (hmix : P.follows .mixedOrders = true) {id : Nat} {ops : Array Oper} {draw : Bool} {st : St} {K : St → Prop}
    (hdst : dstsOk st.nt ops.toList = true)
    (h : bif draw then (bif edgesOk 0 ops.toList then evalOps env ops.toList ops.toList 0 st [] fun s tr => If (fixedOrder (befores ops.toList []) tr) (K s) else False)
      else evalOps env ops.toList ops.toList 0 st [] fun s _ => K s) :
    ∃ st', K st' ∧ ∀ (B : Base) (a : Act) (w : World), Now B st a w → ∀ Q : Exit → Act → World → Prop, (∀ a' w', Now B st' a' w' → Q .normal a' w') → (Code.region id ops draw).wp P Q a w := by
  cases draw with
  | false =>
    simp only [cond_false] at h
    obtain ⟨l, st', hc, hl, hK⟩ := evalOps_chain he _ _ _ _ h
    refine ⟨st', hK, fun B a w hn Q hQ => ?_⟩
    refine wp_region ?_
    have := chain_text hc 0 a w (fun j => by rw [hl, Nat.zero_add, Array.getElem?_toList]) hn (dstsOk_elim hl hdst) hQ
    have hlen : l.length = ops.size := by have := congrArg List.length hl; simpa using this
    rw [hlen, ← List.range_eq_range'] at this
    exact this
  | true =>
    simp only [cond_true] at h
    cases hedge : edgesOk 0 ops.toList with
    | false => rw [hedge] at h; exact h.elim
    | true =>
      rw [hedge] at h
      simp only [cond_true] at h
      obtain ⟨l, st', hc, hl, hK⟩ := evalOps_chain he _ _ _ _ h
      obtain ⟨hfix, hK⟩ := If.elim hK
      rw [List.append_nil] at hfix
      have hlen : l.length = ops.size := by have := congrArg List.length hl; simpa using this
      refine ⟨st', hK, fun B a w hn Q hQ => ?_⟩
      refine wp_region_any hmix ?_
      have hn' := now_start hn
      obtain ⟨hB, ρ, T, hh⟩ := hn'
      refine chain_any hc hl hfix hedge (dstsOk_elim hl hdst) hQ hB (now_lt hn) ops.size _ a _ (by simp) ?_ ?_ ⟨ρ, T, ?_⟩
      · simp
      · intro j o _ hj
        exfalso
        rw [Array.getD_eq_getD_getElem?] at hj
        by_cases hlt : j < ops.size
        · simp [Array.getElem?_replicate, hlt] at hj
        · simp [Array.getElem?_replicate, hlt] at hj
      · have hno : ∀ k, (Array.replicate ops.size false).getD k false = false := by
          intro k
          rw [Array.getD_eq_getD_getElem?]
          by_cases hlt : k < ops.size <;> simp [Array.getElem?_replicate, hlt]
        have hends := chain_ends hc 0
        rw [foldG_none _ _ _ _ _ (fun k _ => hno k), foldG_none _ _ _ _ _ (fun k _ => hno k)]
        have hg : given st l (fun k => (Array.replicate ops.size false).getD k false) = fun id => id < st.nxt := by
          funext id
          apply propext
          unfold given
          constructor
          · rintro (h | ⟨k, s, _, h2, _⟩)
            · exact h
            · simp only [hno] at h2; cases h2
          · exact fun h => .inl h
        rw [hg]
        -- the greater list of what may have been turned
        exact { hh with
          grow := hh.grow.mono fun b _ ⟨p, h1, h2⟩ => ⟨p, hends.dirty p h1, h2⟩
          tkeep := fun b hb hT => (hh.tkeep b hb hT).imp (fun h => h) fun ⟨q, h1, h2⟩ => ⟨q, hends.dirty q h1, h2⟩
          fresh := fun id b h1 h2 h3 => (hh.fresh id b h1 h2 h3).imp (fun h => h) fun ⟨q, h4, h5⟩ => ⟨q, hends.dirty q h4, h5⟩ }

/-- How an end is told. -/
def exOf : Ex → Exit
  | .normal => .normal
  | .exit id => .exit id
  | .ret => .ret

/-- To tell less. -/
def Weaker (n0 : Nat) (W : Nat → St → Option St) : Prop := ∀ blk st st', W blk st = some st' → ∀ (B : Base) (a : Act) (w : World), B.n = n0 → Now B st a w → Now B st' a w

/-- Text that comes from one state to another. -/
def Goes (P : Program) (n0 : Nat) (c : Code) (st : St) (x : Ex) (st' : St) : Prop :=
  ∀ (B : Base) (a : Act) (w : World), B.n = n0 → Now B st a w → c.wp P (fun e a' w' => e = exOf x ∧ Now B st' a' w') a w

theorem iter_ok {n0 : Nat} {c : Code} {E : (Ex → St → Prop) → St → Prop}
    (hE : ∀ (K : Ex → St → Prop) (st : St), E K st → ∃ x st', K x st' ∧ Goes P n0 c st x st') {K : Ex → St → Prop} :
    ∀ (n : Nat) (st : St), iter E K n st → ∃ x st', x ≠ .normal ∧ K x st' ∧
      ∀ (B : Base) (a : Act) (w : World), B.n = n0 → Now B st a w → Code.rounds P c (fun e a' w' => e = exOf x ∧ Now B st' a' w') n a w
  | 0, st, h => h.elim
  | n + 1, st, h => by
    obtain ⟨x, st', hx, hgo⟩ := hE _ st h
    cases x with
    | normal =>
      obtain ⟨y, st2, h1, h2, h3⟩ := iter_ok hE n st' hx
      refine ⟨y, st2, h1, h2, fun B a w hB hn => ?_⟩
      rw [rounds_succ]
      refine wp_mono (hgo B a w hB hn) ?_
      rintro e a' w' ⟨rfl, hn'⟩
      exact h3 B a' w' hB hn'
    | exit id =>
      refine ⟨.exit id, st', by simp, hx, fun B a w hB hn => ?_⟩
      rw [rounds_succ]
      refine wp_mono (hgo B a w hB hn) ?_
      rintro e a' w' ⟨rfl, hn'⟩
      exact ⟨rfl, hn'⟩
    | ret =>
      refine ⟨.ret, st', by simp, hx, fun B a w hB hn => ?_⟩
      rw [rounds_succ]
      refine wp_mono (hgo B a w hB hn) ?_
      rintro e a' w' ⟨rfl, hn'⟩
      exact ⟨rfl, hn'⟩

theorem wk_elim {f : St → Option St} {K : St → Prop} {s : St} (h : wk f K s) : ∃ s', f s = some s' ∧ K s' := by
  unfold wk at h
  split at h
  · rename_i s' hs; exact ⟨s', hs, h⟩
  · exact h.elim

theorem evalCode_ok {env : Env} (he : EnvOK P env) (hmix : P.follows .mixedOrders = true) {W : Nat → St → Option St} {n0 : Nat} (hW : Weaker n0 W) :
    ∀ (c : Code) (blk : Nat) (K : Ex → St → Prop) (st : St), evalCode env W blk c K st → ∃ x st', K x st' ∧ Goes P n0 c st x st'
  | .skip, blk, K, st, h => ⟨.normal, st, h, fun B a w hB hn => wp_skip ⟨rfl, hn⟩⟩
  | .seq c d, blk, K, st, h => by
    obtain ⟨x, st1, hx, hgo⟩ := evalCode_ok he hmix hW c blk _ st h
    cases x with
    | normal =>
      obtain ⟨y, st2, hy, hgo2⟩ := evalCode_ok he hmix hW d blk K st1 hx
      refine ⟨y, st2, hy, fun B a w hB hn => wp_seq (wp_mono (hgo B a w hB hn) ?_)⟩
      rintro e a' w' ⟨rfl, hn'⟩
      exact hgo2 B a' w' hB hn'
    | exit id =>
      refine ⟨.exit id, st1, hx, fun B a w hB hn => wp_seq (wp_mono (hgo B a w hB hn) ?_)⟩
      rintro e a' w' ⟨rfl, hn'⟩
      exact ⟨rfl, hn'⟩
    | ret =>
      refine ⟨.ret, st1, hx, fun B a w hB hn => wp_seq (wp_mono (hgo B a w hB hn) ?_)⟩
      rintro e a' w' ⟨rfl, hn'⟩
      exact ⟨rfl, hn'⟩
  | .cond o c d, blk, K, st, h => by
    simp only [evalCode] at h
    split at h
    · rename_i t
      split at h
      · rename_i b hb
        have hv : ∀ (B : Base) (a : Act) (w : World), Now B st a w → a.eval (.tmp t) = .bool b := by
          rintro B a w ⟨_, ρ, T, hh⟩
          have := hh.tmps t
          rw [hb] at this
          exact this
        rcases Br.elim h with ⟨rfl, h⟩ | ⟨rfl, h⟩
        · obtain ⟨x, st', hx, hgo⟩ := evalCode_ok he hmix hW c blk K _ h
          exact ⟨x, st', hx, fun B a w hB hn => wp_cond_true (hv B a w hn) (hgo B a w hB (now_same (same_setKey hb) hn))⟩
        · obtain ⟨x, st', hx, hgo⟩ := evalCode_ok he hmix hW d blk K _ h
          exact ⟨x, st', hx, fun B a w hB hn => wp_cond_false (hv B a w hn) (hgo B a w hB (now_same (same_setKey hb) hn))⟩
      · exact h.elim
    · exact h.elim
  | .block id c, blk, K, st, h => by
    obtain ⟨x, st', hx, hgo⟩ := evalCode_ok he hmix hW c id _ st h
    cases x with
    | normal =>
      refine ⟨.normal, st', hx, fun B a w hB hn => wp_block (wp_mono (hgo B a w hB hn) ?_)⟩
      rintro e a' w' ⟨rfl, hn'⟩
      exact ⟨rfl, hn'⟩
    | exit i =>
      simp only at hx
      cases hb : Nat.beq i id with
      | true =>
        rw [hb] at hx
        refine ⟨.normal, st', hx, fun B a w hB hn => wp_block (wp_mono (hgo B a w hB hn) ?_)⟩
        rintro e a' w' ⟨rfl, hn'⟩
        simp only [exOf, Exit.inBlock, if_pos (Nat.eq_of_beq_eq_true hb)]
        exact ⟨trivial, hn'⟩
      | false =>
        rw [hb] at hx
        refine ⟨.exit i, st', hx, fun B a w hB hn => wp_block (wp_mono (hgo B a w hB hn) ?_)⟩
        rintro e a' w' ⟨rfl, hn'⟩
        have hne : i ≠ id := by rintro rfl; rw [Nat.beq_refl] at hb; cases hb
        simp only [exOf, Exit.inBlock, if_neg hne]
        exact ⟨trivial, hn'⟩
    | ret =>
      refine ⟨.ret, st', hx, fun B a w hB hn => wp_block (wp_mono (hgo B a w hB hn) ?_)⟩
      rintro e a' w' ⟨rfl, hn'⟩
      exact ⟨rfl, hn'⟩
  | .loop c, blk, K, st, h => by
    simp only [evalCode] at h
    have done : ∀ (n : Nat) (E : (Ex → St → Prop) → St → Prop) (st : St),
        (∀ (K : Ex → St → Prop) (st : St), E K st → ∃ x st', K x st' ∧ Goes P n0 c st x st') →
        iter E K n st → ∃ x st', K x st' ∧ Goes P n0 (.loop c) st x st' := by
      intro n E st hE hi
      obtain ⟨x, st', _, hx, hr⟩ := iter_ok hE n st hi
      exact ⟨x, st', hx, fun B a w hB hn => wp_loop_rounds n (hr B a w hB hn)⟩
    split at h
    · obtain ⟨n, h⟩ := h
      obtain ⟨s', hw, h⟩ := wk_elim h
      obtain ⟨x, st', hx, hgo⟩ := done n _ s' (fun K st h => by
        obtain ⟨x, st1, hx, hgo⟩ := evalCode_ok he hmix hW c blk (fun e => wk (W blk) (K e)) st h
        obtain ⟨st2, hw, hx⟩ := wk_elim hx
        exact ⟨x, st2, hx, fun B a w hB hn => wp_mono (hgo B a w hB hn) fun e a' w' ⟨h1, h2⟩ => ⟨h1, hW _ _ _ hw B a' w' hB h2⟩⟩) h
      exact ⟨x, st', hx, fun B a w hB hn => hgo B a w hB (hW _ _ _ hw B a w hB hn)⟩
    · exact done _ _ _ (fun K st h => evalCode_ok he hmix hW c blk K st h) h
  | .exit id, blk, K, st, h => ⟨.exit id, st, h, fun B a w hB hn => wp_exit ⟨rfl, hn⟩⟩
  | .ret, blk, K, st, h => ⟨.ret, st, h, fun B a w hB hn => wp_ret ⟨rfl, hn⟩⟩
  | .region id ops draw, blk, K, st, h => by
    simp only [evalCode] at h
    cases hd : dstsOk st.nt ops.toList with
    | false => rw [hd] at h; exact h.elim
    | true =>
      rw [hd] at h
      simp only [cond_true] at h
      cases hcut : env.cut id with
      | false =>
        rw [hcut] at h
        obtain ⟨st', hK, hgo⟩ := region_ok he hmix (id := id) hd (K := K .normal) h
        exact ⟨.normal, st', hK, fun B a w hB hn => hgo B a w hn _ fun a' w' hn' => ⟨rfl, hn'⟩⟩
      | true =>
        rw [hcut] at h
        obtain ⟨s', hw, h⟩ := wk_elim h
        obtain ⟨hs', h⟩ := If.elim h
        obtain ⟨st', hK, hgo⟩ := region_ok he hmix (id := id) (by rw [Nat.eq_of_beq_eq_true hs']; exact hd) (K := K .normal) h
        exact ⟨.normal, st', hK, fun B a w hB hn => hgo B a w (hW _ _ _ hw B a w hB hn) _ fun a' w' hn' => ⟨rfl, hn'⟩⟩
  | .rangeFunc _ _ _ _, blk, K, st, h => h.elim
  | .scope _, blk, K, st, h => h.elim
  | .label _, blk, K, st, h => h.elim
  | .goto _, blk, K, st, h => h.elim
  | .refuse _, blk, K, st, h => h.elim

end Go.Se
