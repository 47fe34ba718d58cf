/- Part 7: composite values, builtins. -/
import Derived.Test.YtheedafdaolooaaSeMem
namespace Go.Se
variable {P : Program}

/-- Values written into an array one by one. -/
theorem foldl_put (off : Nat) : ∀ (l : List Value) (k : Nat) (cs : Array Value), off + k + l.length ≤ cs.size →
    (l.zipIdx k).foldl (fun cs (c, j) => cs.setIfInBounds (off + j) c) cs = (overAt cs.toList (off + k) l).toArray
  | [], k, cs, _ => by simp [overAt]
  | v :: l, k, cs, h => by
    simp only [List.length_cons] at h
    rw [List.zipIdx_cons, List.foldl_cons, foldl_put off l (k + 1) _ (by simp; omega)]
    congr 1
    simp only [overAt, Array.toList_setIfInBounds, List.length_cons]
    have hl : off + k < cs.toList.length := by simp; omega
    rw [show off + (k + 1) = off + k + 1 by omega, show off + k + 1 + l.length = off + k + (l.length + 1) by omega]
    rw [List.take_set, List.drop_set_of_lt (by omega)]
    rw [List.take_succ_eq_append_getElem hl, List.set_append]
    have hm : min (off + k) cs.size = off + k := by simp at hl; omega
    simp [hm]

theorem fill_ok {ρ : Names} {T : Nat → Prop} {w : World} {place : Nat → Option (Nat × Nat)} {e : Operand → SV} {ev : Operand → Value} :
    ∀ (ps : List (Nat × Operand)) (cs cs' : List SV) (vs : Array Value), fillE place (ps.map fun q => (q.1, e q.2)) cs = some cs' → relL ρ T w cs vs.toList →
      (∀ q ∈ ps, rel ρ T w (e q.2) (ev q.2)) → (∀ q ∈ ps, e q.2 ≠ .junk) →
      ∃ vs', Instr.fill place vs (ps.map fun q => (q.1, ev q.2)) = some vs' ∧ relL ρ T w cs' vs'.toList
  | [], cs, cs', vs, h, hc, _, _ => by
    simp only [List.map_nil, fillE, Option.some.injEq] at h
    subst h; exact ⟨vs, rfl, hc⟩
  | (i, x) :: ps, cs, cs', vs, h, hc, hr, hj => by
    simp only [List.map_cons, fillE] at h
    split at h
    · cases h
    · rename_i off size hp
      cases hl : Nat.beq (cellsOf (e x)).length size with
      | false => rw [hl] at h; cases h
      | true =>
        rw [hl] at h
        simp only [cond_true] at h
        split at h
        · rename_i cs1 hput
          have hcell := cellsOf_rel (hr (i, x) (by simp)) (hj (i, x) (by simp))
          obtain ⟨h1, h2⟩ := putAt_ok off hput hc hcell
          have hl' := Nat.eq_of_beq_eq_true hl
          have hl2 := relL_len hcell
          have hl3 := relL_len hc
          have hl4 : cs.length = vs.size := hl3.trans (by simp)
          have hfit : off + (ev x).cells.toList.length ≤ vs.size := by
            have hl5 : (cellsOf (e x)).length = (ev x).cells.toList.length := hl2
            have h1' : off + (cellsOf (e x)).length ≤ cs.length := h1
            omega
          have hsz : (ev x).cells.size = size := by rw [← hl', hl2]; simp
          obtain ⟨vs', h3, h4⟩ := fill_ok ps cs1 cs' (overAt vs.toList off (ev x).cells.toList).toArray h (by simpa using h2)
            (fun q hq => hr q (by simp [hq])) (fun q hq => hj q (by simp [hq]))
          refine ⟨vs', ?_, h4⟩
          simp only [List.map_cons, Instr.fill, hp, hsz, ne_eq, not_true_eq_false, decide_false, Bool.false_or, decide_eq_true_eq]
          rw [if_neg (by simp at hfit ⊢; omega)]
          have := foldl_put off (ev x).cells.toList 0 vs (by simpa using hfit)
          rw [← Array.foldl_toList, Array.toList_zipIdx, this]
          exact h3
        · cases h

theorem run_mapM_ok {α β : Type} {P : Program} {w : World} {f : α → Sem β} {g : α → β} (l : List α) (h : ∀ x ∈ l, (f x).run P w = .ok (g x) w) :
    (l.mapM f).run P w = .ok (l.map g) w := by
  induction l with
  | nil => rfl
  | cons x l ih =>
    rw [List.mapM_cons]
    simp only [Sem.run_bind, h x (by simp), Result.andThen_ok, ih fun y hy => h y (by simp [hy]), Sem.run_pure, List.map_cons]

instance : LawfulMonad Sem := LawfulMonad.mk' Sem
  (id_map := fun x => Sem.bind_pure' x) (pure_bind := fun _ _ => rfl) (bind_assoc := fun x f g => Sem.bind_assoc' x f g)

section
variable {st : St} {o : Oper} {K : KV} {env : Env} (htt : ∀ t ti, env.tt t = some ti → TIok P t ti)

theorem jfree {ps : List (Nat × Operand)} {l : Tmps} (h : (ps.map fun q => (q.1, eval l q.2)).all (fun q => notJunk q.2) = true) : ∀ q ∈ ps, eval l q.2 ≠ .junk := by
  intro q hq hj
  rw [List.all_eq_true] at h
  have := h (q.1, eval l q.2) (List.mem_map.2 ⟨q, hq, rfl⟩)
  simp only [hj] at this
  cases this

include htt
theorem good_build {t : TypeId} {ps : Array (Nat × Operand)} (ho : o.op = .build t ps)
    (h : buildE env t (ps.toList.map fun q => (q.1, eval st.tmps q.2)) fun v => K v [] st.nxt [] []) : Good P st o K := by
  unfold buildE at h
  cases hj : (ps.toList.map fun q => (q.1, eval st.tmps q.2)).all (fun q => notJunk q.2) with
  | false => rw [hj] at h; exact h.elim
  | true =>
  rw [hj] at h
  simp only [cond_true] at h
  have hops : ∀ q ∈ ps.toList, q.2 ∈ o.op.operands := by
    intro q hq
    simp only [ho, Op.operands, List.mem_toArray, List.mem_map]
    exact ⟨q, hq, rfl⟩
  split at h
  · exact h.elim
  · rename_i ti ht
    split at h
    · rename_i fs hk
      split at h
      · rename_i cs hf
        refine Good.pure h (OpOK.pure fun ρ T a w hr => ?_)
        obtain ⟨gs, hgs, hfs, _⟩ := kind_struct (htt _ _ ht) hk
        have hu : ∀ w, (Go.underlying t).run P w = .ok (.struct gs) w := fun w => by simp [Go.underlying, hgs]
        obtain ⟨z, hz, hzc⟩ := (htt _ _ ht).zero (w := w)
        have hex : ∀ f ∈ gs.toList, ∃ i, P.info? f.type = some i := by
          intro f hf
          have := ((htt _ _ ht).held _ hk).2 (f.offset, f.type) (by rw [hfs]; exact List.mem_map.2 ⟨f, hf, rfl⟩)
          exact Option.isSome_iff_exists.1 this
        let g : Field → Nat × Nat := fun f => (f.offset, ((P.info? f.type).map (·.size)).getD 0)
        have hplaces : (gs.mapM fun f => (do Pure.pure (f.offset, ← sizeOf f.type) : Sem (Nat × Nat))).run P w = .ok (gs.map g) w := by
          rw [← Array.toArray_toList (xs := gs), List.mapM_toArray]
          simp only [Sem.run_map]
          rw [run_mapM_ok (g := g)]
          · simp only [Result.andThen_ok]; congr 1; apply Array.ext'; simp
          · intro f hf
            obtain ⟨i, hi⟩ := hex f hf
            simp [Go.sizeOf, Go.typeInfo, hi, g]
        have hplace : ∀ i p, fieldPlace env.tt fs i = some p → (gs.map g)[i]? = some p := by
          intro i p hp
          obtain ⟨off, size⟩ := p
          obtain ⟨gs', hgs', f, hfi, h1, tf, htf, h2, _⟩ := fieldPlace_ok htt (htt _ _ ht) hk hp
          rw [hgs] at hgs'; cases hgs'
          obtain ⟨⟨i', hi', hsz, _⟩, _⟩ := htf
          simp only [Array.getElem?_map, hfi, Option.map_some, g, hi', Option.getD_some, h1]
          rw [hsz, h2]
        have hf' : fillE (fun i => (gs.map g)[i]?) (ps.toList.map fun q => (q.1, eval st.tmps q.2)) ti.zero = some cs := by
          clear h hj hops hz hzc hplaces
          revert hf
          generalize ti.zero = zs
          generalize (ps.toList.map fun q => (q.1, eval st.tmps q.2)) = l
          induction l generalizing zs with
          | nil => intro hf; exact hf
          | cons q l ih =>
            obtain ⟨i, v⟩ := q
            intro hf
            simp only [fillE] at hf ⊢
            split at hf
            · cases hf
            · rename_i off size hp
              rw [hplace i _ hp]
              simp only
              cases hl : Nat.beq (cellsOf v).length size with
              | false => rw [hl] at hf; cases hf
              | true =>
                rw [hl] at hf
                simp only [cond_true] at hf ⊢
                split at hf
                · rename_i c1 hc1
                  exact ih c1 hf
                · cases hf
        obtain ⟨vs', h3, h4⟩ := fill_ok ps.toList ti.zero cs z.cells hf' (zeroCells_rel ρ T w _ _ hzc) (fun q hq => hr _ (hops q hq)) (jfree hj)
        refine ⟨.agg vs', ?_, vs', rfl, h4⟩
        simp only [execOp, ho, Instr.build, Sem.run_bind, hz, Result.andThen_ok, hu, hplaces, Array.toList_map]
        rw [h3]
        rfl
      · exact h.elim
    · rename_i n e hk
      split at h
      · rename_i te hte
        split at h
        · rename_i cs hf
          refine Good.pure h (OpOK.pure fun ρ T a w hr => ?_)
          have hu : ∀ w, (Go.underlying t).run P w = .ok (.array n e) w := fun w => by simp [Go.underlying, kind_array (htt _ _ ht) hk]
          obtain ⟨z, hz, hzc⟩ := (htt _ _ ht).zero (w := w)
          obtain ⟨vs', h3, h4⟩ := fill_ok ps.toList ti.zero cs z.cells hf (zeroCells_rel ρ T w _ _ hzc) (fun q hq => hr _ (hops q hq)) (jfree hj)
          refine ⟨.agg vs', ?_, vs', rfl, h4⟩
          simp only [execOp, ho, Instr.build, Sem.run_bind, hz, Result.andThen_ok, hu, (htt _ _ hte).sizeOf, Array.toList_map]
          rw [h3]
          rfl
        · exact h.elim
      · exact h.elim
    · exact h.elim

omit htt in
theorem relL_map_range {ρ : Names} {T : Nat → Prop} {w : World} {zs : List SV} {z : Array Value} (h : relL ρ T w zs z.toList) :
    relL ρ T w zs ((List.range z.size).map fun i => z[i % z.size]!) := by
  have : ((List.range z.size).map fun i => z[i % z.size]!) = z.toList := by
    apply List.ext_getElem (by simp)
    intro i h1 h2
    simp only [List.length_map, List.length_range] at h1
    simp [Nat.mod_eq_of_lt h1, h1]
  rw [this]; exact h

omit htt in
theorem relL_repeat {ρ : Names} {T : Nat → Prop} {w : World} {zs : List SV} {z : Array Value} (h : relL ρ T w zs z.toList) :
    ∀ n, relL ρ T w (repeatCells zs n) ((List.range (n * z.size)).map fun i => z[i % z.size]!)
  | 0 => by simp [repeatCells, relL]
  | n + 1 => by
    rw [show (n + 1) * z.size = z.size + n * z.size by rw [Nat.succ_mul, Nat.add_comm], List.range_add, List.map_append, List.map_map]
    refine relL_append (relL_map_range h) ?_
    have := relL_repeat h n
    have e : ((fun i => z[i % z.size]!) ∘ fun x => z.size + x) = fun i => z[i % z.size]! := by
      funext i; simp
    rw [e]; exact this

theorem good_buildSlice {t : TypeId} {len : Nat} {ps : Array (Nat × Operand)} (ho : o.op = .buildSlice t len ps)
    (h : buildSliceE env t len (ps.toList.map fun q => (q.1, eval st.tmps q.2)) st K) : Good P st o K := by
  unfold buildSliceE at h
  cases hj : (ps.toList.map fun q => (q.1, eval st.tmps q.2)).all (fun q => notJunk q.2) with
  | false => rw [hj] at h; exact h.elim
  | true =>
  rw [hj] at h
  simp only [cond_true] at h
  have hops : ∀ q ∈ ps.toList, q.2 ∈ o.op.operands := by
    intro q hq
    simp only [ho, Op.operands, List.mem_toArray, List.mem_map]
    exact ⟨q, hq, rfl⟩
  split at h
  · exact h.elim
  · rename_i ti ht
    split at h
    · rename_i e hk
      split at h
      · rename_i te hte
        cases hb : (Nat.ble (len * te.size) 16777216 && Nat.beq te.zero.length te.size) with
        | false => rw [hb] at h; exact h.elim
        | true =>
          rw [hb] at h
          simp only [Bool.and_eq_true, cond_true] at hb h
          split at h
          · rename_i cs hf
            obtain ⟨hlen, h⟩ := If.elim h
            refine ⟨_, _, _, _, _, h, Nat.le_succ _, by simp, Once.one, by simp, fun ρ T a w next Q hr _ _ hρ hn hnext => ?_⟩
            have hu : ∀ w, (Go.underlying t).run P w = .ok (.slice e) w := fun w => by simp [Go.underlying, kind_slice (htt _ _ ht) hk]
            obtain ⟨z, hz, hzc⟩ := (htt _ _ hte).zero (w := w)
            have hzr := zeroCells_rel ρ T w _ _ hzc
            have hzs : z.cells.size = te.size := by
              have := relL_len hzr
              rw [Nat.eq_of_beq_eq_true hb.2] at this
              simpa using this.symm
            have hle : ¬ len * te.size > 2 ^ 24 := by
              have := Nat.le_of_ble_eq_true hb.1
              omega
            have hcells : relL ρ T w (repeatCells te.zero len) (((Array.range (len * te.size)).map fun i => z.cells[i % z.cells.size]!)).toList := by
              have := relL_repeat hzr len
              rw [hzs] at this
              rw [hzs]
              simpa [Array.toList_range] using this
            obtain ⟨vs', h3, h4⟩ := fill_ok ps.toList _ cs _ hf hcells (fun q hq => hr _ (hops q hq)) (jfree hj)
            have hrun : (execOp a.eval o).run P w = .ok (.value (.slice (some ⟨w.heap.size, 0, none⟩) len len)) (w.alloc (.cells vs' e)) := by
              simp only [execOp, ho, Instr.buildSlice, Sem.run_bind, hu, Result.andThen_ok, (htt _ _ hte).sizeOf, Array.toList_map]
              rw [if_neg hle]
              by_cases h0 : len * te.size = 0
              · have harr : (Array.range (len * te.size)).map (fun i => (#[] : Array Value)[i % (#[] : Array Value).size]!) =
                    (Array.range (len * te.size)).map fun i => z.cells[i % z.cells.size]! := by rw [h0]; simp
                rw [if_pos h0]
                simp only [Sem.run_bind, Sem.run_pure, Result.andThen_ok]
                rw [harr, h3]
                simp [newRow]
              · rw [if_neg h0]
                simp only [Sem.run_bind, hz, Sem.run_pure, Result.andThen_ok]
                rw [h3]
                simp [newRow]
            refine wp_value hrun (hnext _ _ _ _ (Done.new hρ (hn _ (Nat.le_refl _) (Nat.lt_succ_self _)) h4 ?_))
            exact ⟨⟨_, by simp [named], rfl⟩, by simpa using hlen⟩
          · exact h.elim
      · exact h.elim
    · exact h.elim

end
end Go.Se
