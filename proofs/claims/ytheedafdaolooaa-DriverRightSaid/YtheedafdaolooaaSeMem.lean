/- Part 6: operations on memory. -/
import Derived.Test.YtheedafdaolooaaSeOps3
namespace Go.Se
variable {P : Program}

/-- A name more. -/
def named (ρ : Names) (n b : Nat) : Names := fun i => if i = n then some b else ρ i

theorem alloc_at (w : World) (o : Obj) : (w.alloc o).heap[w.heap.size]? = some o := by show (w.heap.push o)[w.heap.size]? = some o; simp

theorem alloc_other {w : World} {o : Obj} {b : Nat} (h : b < w.heap.size) : (w.alloc o).heap[b]? = w.heap[b]? := by
  show (w.heap.push o)[b]? = w.heap[b]?
  rw [Array.getElem?_push_lt h, Array.getElem?_eq_getElem h]

theorem Grow.alloc (T : Nat → Prop) (w : World) (o : Obj) : Grow T w (w.alloc o) where
  size := by rw [World.size_alloc]; omega
  same b hb _ := alloc_other hb
  shape b vs e f h := ⟨vs, f, by rw [alloc_other (Array.getElem?_eq_some_iff.1 h).1]; exact h, rfl⟩
  os := rfl
  output := rfl
  tape := rfl

/-- A new block. -/
theorem Done.new {ρ : Names} {T : Nat → Prop} {w : World} {n : Nat} {cs : List SV} {vs : Array Value} {e : TypeId} {v : SV} {x : Value}
    (hρ : ∀ id b, ρ id = some b → b < w.heap.size) (hn : ρ n = none) (hc : relL ρ T w cs vs.toList)
    (hv : rel (named ρ n w.heap.size) (fun b => T b ∨ b = w.heap.size) (w.alloc (.cells vs e)) v x) :
    Done ρ T w n (n + 1) v [(n, some (.cells e cs))] [] (named ρ n w.heap.size) (fun b => T b ∨ b = w.heap.size) (w.alloc (.cells vs e)) x where
  names id b h := by
    unfold named
    rw [if_neg (by rintro rfl; rw [hn] at h; cases h)]; exact h
  only id b h := by
    unfold named at h
    split at h
    · right; omega
    · exact .inl h
  val := hv
  turned id sb h := by
    simp only [List.mem_singleton, Prod.mk.injEq, Option.some.injEq] at h
    obtain ⟨rfl, rfl⟩ := h
    refine ⟨w.heap.size, by simp [named], .inr rfl, vs, alloc_at _ _, ?_⟩
    refine relL_mono ?_ ?_ (Grow.alloc T w _) _ _ hc
    · intro i b h
      unfold named
      rw [if_neg (by rintro rfl; rw [hn] at h; cases h)]; exact h
    · intro b hb h
      rcases h with h | h
      · exact h
      · omega
  keys id o h := by
    simp only [List.mem_singleton, Prod.mk.injEq] at h
    right; omega
  cover _ h := by cases h
  fresh id b h1 h2 h := by
    left
    obtain rfl : id = n := by omega
    simp [named] at h
    omega
  inj i j b h1 h2 h3 h4 _ _ := by omega
  grow := Grow.alloc _ w _
  tback b hb h := by
    rcases h with h | h
    · exact h
    · omega
  below id b h1 h2 h := by
    obtain rfl : id = n := by omega
    simp [named] at h
    rw [World.size_alloc]; omega
  tkeep b _ h := .inl (.inl h)

section
variable {st : St} {o : Oper} {K : KV} {env : Env} (htt : ∀ t ti, env.tt t = some ti → TIok P t ti)
include htt

theorem good_alloc {t : TypeId} {ti : TI} (ho : o.op = .alloc t) (ht : env.tt t = some ti)
    (h : K (.ptr st.nxt 0) [(st.nxt, some (.cells t ti.zero))] (st.nxt + 1) [] []) : Good P st o K := by
  refine ⟨_, _, _, _, _, h, Nat.le_succ _, by simp, Once.one, by simp, fun ρ T a w next Q hx _ _ hρ hn hnext => ?_⟩
  obtain ⟨z, hz, hzc⟩ := (htt _ _ ht).zero (w := w)
  have hrun : (execOp a.eval o).run P w = .ok (.value (.pointer (some ⟨w.heap.size, 0, none⟩))) (w.alloc (.cells z.cells t)) := by
    simp [execOp, ho, Instr.alloc, hz, newVar, newRow]
  refine wp_value hrun (hnext _ _ _ _ (Done.new hρ (hn _ (Nat.le_refl _) (Nat.lt_succ_self _)) (zeroCells_rel ρ T w _ _ hzc) ?_))
  exact ⟨_, by simp [named], rfl⟩

omit htt in
theorem cellsOf_rel {ρ : Names} {T : Nat → Prop} {w : World} {v : SV} {x : Value} (h : rel ρ T w v x) (hv : v ≠ .junk) : relL ρ T w (cellsOf v) x.cells.toList := by
  have one : ∀ u : SV, rel ρ T w u x → x.cells = #[x] → relL ρ T w [u] x.cells.toList := fun u hu hx => by rw [hx]; exact ⟨x, [], rfl, hu, rfl⟩
  cases v with
  | junk => exact absurd rfl hv
  | agg cs => obtain ⟨a, rfl, ha⟩ := h; exact ha
  | int k n => exact one _ h (by rw [h.1]; rfl)
  | bool b => exact one _ h (by have h' : x = .bool b := h; rw [h']; rfl)
  | str s => exact one _ h (by rw [h.1]; rfl)
  | nilp => exact one _ h (by have h' : x = .pointer none := h; rw [h']; rfl)
  | ptr id off => exact one _ h (by obtain ⟨b, _, rfl⟩ := h; rfl)
  | rptr cs => exact one _ h (by obtain ⟨b, o, rfl, _⟩ := h; rfl)
  | fn f a b => exact one _ h (by obtain ⟨c, d, rfl, _⟩ := h; rfl)
  | nilfn => exact one _ h (by have h' : x = .nilFunc := h; rw [h']; rfl)
  | tup vs => exact one _ h (by obtain ⟨a, rfl, _⟩ := h; rfl)
  | nils => exact one _ h (by have h' : x = .slice none 0 0 := h; rw [h']; rfl)
  | arr a b c d => exact one _ h (by obtain ⟨⟨b, _, rfl⟩, _⟩ := h; rfl)
  | own a b c => exact one _ h (by obtain ⟨b, c, _, rfl, _⟩ := h; rfl)
  | ro a b c => exact one _ h (by obtain ⟨b, c, rfl, _⟩ := h; rfl)
  | nilI => exact one _ h (by have h' : x = .nilIface := h; rw [h']; rfl)
  | iface t v => exact one _ h (by obtain ⟨y, rfl, _⟩ := h; rfl)

omit htt in
theorem oneCell_ok {ρ : Names} {T : Nat → Prop} {w : World} {v : SV} {x : Value} (h : rel ρ T w v x) (hv : oneCell v = true) : x.oneCell' = true := by
  cases v with
  | junk => cases hv
  | agg cs => cases hv
  | tup cs => cases hv
  | int k n => rw [h.1]; rfl
  | bool b => have h' : x = .bool b := h; rw [h']; rfl
  | str s => rw [h.1]; rfl
  | nilp => have h' : x = .pointer none := h; rw [h']; rfl
  | ptr id off => obtain ⟨b, _, rfl⟩ := h; rfl
  | rptr cs => obtain ⟨b, o, rfl, _⟩ := h; rfl
  | fn f a b => obtain ⟨c, d, rfl, _⟩ := h; rfl
  | nilfn => have h' : x = .nilFunc := h; rw [h']; rfl
  | nils => have h' : x = .slice none 0 0 := h; rw [h']; rfl
  | arr a b c d => obtain ⟨⟨b, _, rfl⟩, _⟩ := h; rfl
  | own a b c => obtain ⟨b, c, _, rfl, _⟩ := h; rfl
  | ro a b c => obtain ⟨b, c, rfl, _⟩ := h; rfl
  | nilI => have h' : x = .nilIface := h; rw [h']; rfl
  | iface t v => obtain ⟨y, rfl, _⟩ := h; rfl

omit htt in
theorem oneCells_ok {ρ : Names} {T : Nat → Prop} {w : World} : ∀ {l : List SV} {m : List Value}, relL ρ T w l m → l.all oneCell = true → ∀ x ∈ m, x.oneCell' = true
  | [], m, h, _, x, hx => by rw [h] at hx; cases hx
  | a :: l, m, ⟨v, r, h1, h2, h3⟩, ha, x, hx => by
    simp only [List.all_cons, Bool.and_eq_true] at ha
    rw [h1] at hx
    rcases List.mem_cons.1 hx with rfl | hx
    · exact oneCell_ok h2 ha.1
    · exact oneCells_ok h3 ha.2 x hx

omit htt in
theorem good_box {t : TypeId} {x : Operand} (ho : o.op = .box t x) (hx : eval st.tmps x ≠ .junk)
    (h : K (.ptr st.nxt 0) [(st.nxt, some (.cells t (cellsOf (eval st.tmps x))))] (st.nxt + 1) [] []) : Good P st o K := by
  refine ⟨_, _, _, _, _, h, Nat.le_succ _, by simp, Once.one, by simp, fun ρ T a w next Q hr _ _ hρ hn hnext => ?_⟩
  have hrun : (execOp a.eval o).run P w = .ok (.value (.pointer (some ⟨w.heap.size, 0, none⟩))) (w.alloc (.cells (a.eval x).cells t)) := by
    simp [execOp, ho, Instr.box, newVar, newRow]
  refine wp_value hrun (hnext _ _ _ _ (Done.new hρ (hn _ (Nat.le_refl _) (Nat.lt_succ_self _)) (cellsOf_rel (hr x (by simp [ho, Op.operands])) hx) ?_))
  exact ⟨_, by simp [named], rfl⟩

omit htt in
theorem cut_len {cs : List SV} {off n : Nat} (h : (cut cs off n).length = n) (hn : 0 < n) : off + n ≤ cs.length := by
  unfold cut at h
  rw [List.length_take, List.length_drop] at h
  omega

omit htt in
theorem run_loadVar {w : World} {b off : Nat} {vs : Array Value} {e : TypeId} {f : Nat × Nat} {t : TypeId} {ti : TI} (ht : TIok P t ti) (hb : w.heap[b]? = some (.cells vs e f))
    {ρ : Names} {T : Nat → Prop} {cs : List SV} (hc : relL ρ T w cs vs.toList) {v : SV} (hv : ofCells ti (cut cs off ti.size) = some v) :
    ∃ x, (loadVar t ⟨b, off, none⟩).run P w = .ok x w ∧ rel ρ T w v x := by
  have hr := relL_cut off ti.size hc
  unfold loadVar
  rw [Sem.run_bind, ht.isAgg]
  unfold ofCells at hv
  cases hk : isAgg ti.kind with
  | true =>
    rw [hk] at hv
    simp only [cond_true] at hv
    cases hl : Nat.beq (cut cs off ti.size).length ti.size with
    | false => rw [hl] at hv; cases hv
    | true =>
      rw [hl] at hv
      cases hv
      have hl' := Nat.eq_of_beq_eq_true hl
      refine ⟨.agg ((vs.toList.drop off).take ti.size).toArray, ?_, _, rfl, by simpa using hr⟩
      simp only [Result.andThen_ok, if_true, Sem.run_bind, ht.sizeOf]
      by_cases h0 : ti.size = 0
      · rw [h0]; simp [loadCells, loadCellsFrom]
      · have := cut_len hl' (by omega)
        have hlen : cs.length = vs.size := (relL_len hc).trans (by simp)
        rw [run_loadCells hb (by omega)]
        simp
  | false =>
    rw [hk] at hv
    simp only [cond_false] at hv
    split at hv
    · rename_i c hcut
      cases hv
      rw [hcut] at hr
      obtain ⟨x, r, h2, h3, _⟩ := hr
      refine ⟨x, ?_, h3⟩
      have h5 : ((vs.toList.drop off).take ti.size)[0]? = some x := by rw [h2]; rfl
      rw [List.getElem?_take] at h5
      split at h5
      · rw [List.getElem?_drop] at h5
        have h6 : vs[off]? = some x := by simpa using h5
        simp only [Result.andThen_ok, Bool.false_eq_true, if_false, run_load, cell_of hb, h6]
      · cases h5
    · cases hv

omit htt in
theorem run_loadCellsAt {T : Nat → Prop} {w : World} {b off : Nat} : ∀ (cs : List SV) (i : Nat) (acc : Array Value), relAt T w cs b (off + i) →
    ∃ m : List Value, (loadCellsFrom ⟨b, off, none⟩ i cs.length acc).run P w = .ok (acc ++ m.toArray) w ∧ relL (fun _ => none) T w cs m
  | [], i, acc, _ => ⟨[], by simp [loadCellsFrom], rfl⟩
  | c :: cs, i, acc, ⟨⟨v, h1, h2⟩, h3⟩ => by
    obtain ⟨m, h4, h5⟩ := run_loadCellsAt cs (i + 1) (acc.push v) (by rw [show off + (i + 1) = off + i + 1 by omega]; exact h3)
    refine ⟨v :: m, ?_, v, m, rfl, h2, h5⟩
    simp only [List.length_cons, loadCellsFrom, Sem.run_bind, add_off, run_load, h1, Result.andThen_ok, h4]
    simp

omit htt in
theorem relL_closed {ρ : Names} {T : Nat → Prop} {w : World} {l : List SV} {m : List Value} (h : relL (fun _ => none) T w l m) : relL ρ T w l m :=
  relL_mono (fun _ _ h => by cases h) (fun _ _ h => h) (Grow.refl T w) _ _ h

omit htt in
theorem relAt_take {T : Nat → Prop} {w : World} : ∀ (n : Nat) {cs : List SV} {b o : Nat}, relAt T w cs b o → relAt T w (cs.take n) b o
  | 0, _, _, _, _ => by simp [relAt]
  | n + 1, [], _, _, _ => by simp [relAt]
  | n + 1, c :: cs, b, o, ⟨h1, h2⟩ => ⟨h1, relAt_take n h2⟩

omit htt in
theorem run_loadVarAt {T : Nat → Prop} {w : World} {b off : Nat} {t : TypeId} {ti : TI} (ht : TIok P t ti) {cs : List SV} (hc : relAt T w cs b off) {ρ : Names} {v : SV}
    (hv : ofCells ti (cs.take ti.size) = some v) : ∃ x, (loadVar t ⟨b, off, none⟩).run P w = .ok x w ∧ rel ρ T w v x := by
  have hr := relAt_take ti.size hc
  unfold loadVar
  rw [Sem.run_bind, ht.isAgg]
  unfold ofCells at hv
  cases hk : isAgg ti.kind with
  | true =>
    rw [hk] at hv
    simp only [cond_true] at hv
    cases hl : Nat.beq (cs.take ti.size).length ti.size with
    | false => rw [hl] at hv; cases hv
    | true =>
      rw [hl] at hv
      cases hv
      have hl' := Nat.eq_of_beq_eq_true hl
      obtain ⟨m, h1, h2⟩ := run_loadCellsAt (P := P) (cs.take ti.size) 0 #[] hr
      rw [hl'] at h1
      refine ⟨.agg m.toArray, ?_, _, rfl, relL_closed h2⟩
      simp only [Result.andThen_ok, if_true, Sem.run_bind, ht.sizeOf, loadCells, h1]
      simp
  | false =>
    rw [hk] at hv
    simp only [cond_false] at hv
    split at hv
    · rename_i c hcut
      cases hv
      rw [hcut] at hr
      obtain ⟨⟨x, h1, h2⟩, _⟩ := hr
      refine ⟨x, ?_, rel_mono (fun _ _ h => by cases h) (fun _ _ h => h) (Grow.refl T w) _ _ h2⟩
      simp only [Result.andThen_ok, Bool.false_eq_true, if_false, run_load, h1]
    · cases hv

theorem good_load {t : TypeId} {x : Operand} (ho : o.op = .load t x) (h : loadE env t (eval st.tmps x) st K) : Good P st o K := by
  unfold loadE at h
  split at h
  · exact h.elim
  · rename_i ti ht
    split at h
    · rename_i id off hx
      split at h
      · rename_i e cs hl
        split at h
        · rename_i v hv
          refine ⟨v, [], st.nxt, [id], [], h, Nat.le_refl _, ?_, Once.nil, by simp, fun ρ T a w next Q hr hb _ _ _ hnext => ?_⟩
          · intro i hi
            simp only [List.mem_singleton, List.not_mem_nil, or_false] at hi
            subst hi; exact ⟨_, hl⟩
          · have h1 := hr x (by simp [ho, Op.operands])
            rw [hx] at h1
            obtain ⟨b, h2, h3⟩ := h1
            obtain ⟨sb, b', h4, h5, _, h6⟩ := hb id (.inl (by simp))
            rw [hl] at h4; cases h4
            rw [h2] at h5; cases h5
            obtain ⟨vs, h7, h8⟩ := h6
            obtain ⟨y, h9, h10⟩ := run_loadVar (htt _ _ ht) h7 h8 hv
            exact wp_value (by simp [execOp, ho, h3, Instr.loadAt, Instr.sureAddr, h9]) (hnext y w ρ T (Done.pure h10))
        · exact h.elim
      · exact h.elim
    · rename_i cs hx
      split at h
      · rename_i v hv
        refine Good.pure h (OpOK.pure fun ρ T a w hr => ?_)
        have h1 := hr x (by simp [ho, Op.operands])
        rw [hx] at h1
        obtain ⟨b, off, h2, h3, h4, h5⟩ := h1
        obtain ⟨y, h9, h10⟩ := run_loadVarAt (ρ := ρ) (htt _ _ ht) h5 hv
        exact ⟨y, by simp [execOp, ho, h2, Instr.loadAt, Instr.sureAddr, h9], h10⟩
      · exact h.elim
    · exact h.elim

omit htt in
theorem over_ok {ρ : Names} {T : Nat → Prop} {w : World} : ∀ {cs vs cs' : List SV} {m n : List Value}, putAt.over cs vs = some cs' → relL ρ T w cs m → relL ρ T w vs n →
    vs.length ≤ cs.length ∧ relL ρ T w cs' (n ++ m.drop n.length)
  | cs, [], cs', m, n, h, hc, hv => by
    cases cs <;> (simp only [putAt.over, Option.some.injEq] at h; subst h; rw [hv]; exact ⟨by simp, by simpa using hc⟩)
  | [], v :: vs, cs', m, n, h, hc, hv => by simp [putAt.over] at h
  | c :: cs, v :: vs, cs', m, n, h, ⟨x, r, h1, h2, h3⟩, ⟨y, q, h4, h5, h6⟩ => by
    simp only [putAt.over] at h
    split at h
    · rename_i r' hr
      cases h
      obtain ⟨h7, h8⟩ := over_ok hr h3 h6
      rw [h1, h4]
      exact ⟨by simp; omega, y, _, rfl, h5, by simpa using h8⟩
    · cases h

omit htt in
theorem putAt_ok {ρ : Names} {T : Nat → Prop} {w : World} : ∀ {cs : List SV} (off : Nat) {vs cs' : List SV} {m n : List Value}, putAt cs off vs = some cs' → relL ρ T w cs m → relL ρ T w vs n →
    off + vs.length ≤ cs.length ∧ relL ρ T w cs' (overAt m off n)
  | cs, 0, vs, cs', m, n, h, hc, hv => by
    have h' : putAt.over cs vs = some cs' := by cases cs <;> exact h
    obtain ⟨h1, h2⟩ := over_ok h' hc hv
    exact ⟨by omega, by simpa [overAt] using h2⟩
  | [], off + 1, vs, cs', m, n, h, hc, hv => by simp [putAt] at h
  | c :: cs, off + 1, vs, cs', m, n, h, ⟨x, r, h1, h2, h3⟩, hv => by
    simp only [putAt] at h
    split at h
    · rename_i r' hr
      cases h
      obtain ⟨h4, h5⟩ := putAt_ok off hr h3 hv
      rw [h1]
      refine ⟨by simp; omega, x, _, ?_, h2, h5⟩
      simp only [overAt, List.take_succ_cons, List.cons_append]
      rw [show off + 1 + n.length = off + n.length + 1 by omega, List.drop_succ_cons]
    · cases h

omit htt in
theorem overAt_len {m n : List Value} {off : Nat} (h : off + n.length ≤ m.length) : (overAt m off n).length = m.length := by
  simp only [overAt, List.length_append, List.length_take, List.length_drop]; omega

omit htt in
theorem Grow.put {w : World} {b : Nat} {vs : Array Value} {e : TypeId} {vs' : Array Value} (hb : w.heap[b]? = some (.cells vs e (0, 0))) (hs : vs'.size = vs.size)
    (T : Nat → Prop) (hT : T b) : Grow T w (putBlock w b vs' e) where
  size := by rw [putBlock_size]; exact Nat.le_refl _
  same c _ hn := putBlock_other (by rintro rfl; exact hn hT)
  shape c ws f g h := by
    by_cases hc : c = b
    · subst hc
      rw [hb] at h
      cases h
      exact ⟨vs', _, putBlock_at (Array.getElem?_eq_some_iff.1 hb).1, hs⟩
    · exact ⟨ws, g, by rw [putBlock_other hc]; exact h, rfl⟩
  os := rfl
  output := rfl
  tape := rfl

theorem good_store {t : TypeId} {x y : Operand} (ho : o.op = .store t x y) (h : storeE env t (eval st.tmps x) (eval st.tmps y) st K) : Good P st o K := by
  unfold storeE at h
  split at h
  · exact h.elim
  · rename_i ti ht
    split at h
    · rename_i id off hx
      split at h
      · rename_i e cs hl
        cases hb1 : (Nat.beq (cellsOf (eval st.tmps y)).length ti.size && (cellsOf (eval st.tmps y)).all oneCell) with
        | false => rw [hb1] at h; exact h.elim
        | true =>
          rw [hb1] at h
          simp only [Bool.and_eq_true, cond_true] at hb1 h
          split at h
          · rename_i cs' hp
            refine ⟨_, _, _, _, _, h, Nat.le_refl _, ?_, Once.one, by simp, fun ρ T a w next Q hr hb _ _ _ hnext => ?_⟩
            · intro i hi
              simp only [List.mem_singleton, List.not_mem_nil, false_or] at hi
              subst hi; exact ⟨_, hl⟩
            · have h1 := hr x (by simp [ho, Op.operands])
              have hy := hr y (by simp [ho, Op.operands])
              rw [hx] at h1
              obtain ⟨b, h2, h3⟩ := h1
              obtain ⟨sb, b', h4, h5, hTb, h6⟩ := hb id (.inr (by simp))
              rw [hl] at h4; cases h4
              rw [h2] at h5; cases h5
              obtain ⟨vs, h7, h8⟩ := h6
              have hj : eval st.tmps y ≠ .junk := by
                intro hj
                rw [hj] at hb1
                simp [cellsOf, oneCell] at hb1
              have hcell := cellsOf_rel hy hj
              obtain ⟨h9, h10⟩ := putAt_ok off hp h8 hcell
              have hl1 := relL_len h8
              have hl2 := relL_len hcell
              have hlen := Nat.eq_of_beq_eq_true hb1.1
              have hfit : off + (a.eval y).cells.toList.length ≤ vs.size := by
                rw [← hl2]; simp at hl1; omega
              have hrun : (execOp a.eval o).run P w = .ok .skip (putBlock w b (overAt vs.toList off (a.eval y).cells.toList).toArray e) := by
                have hsz : (a.eval y).cells.size = ti.size := by
                  rw [← hlen, hl2]; simp
                simp only [execOp, ho, h3, Instr.storeAt, Instr.sureAddr, Sem.run_bind, Sem.run_pure, Result.andThen_ok, storeVar, (htt _ _ ht).sizeOf, hsz, ne_eq, not_true_eq_false, if_false]
                rw [run_storeCells (e := e) _ 0 vs w h7 (by simpa using hfit) (oneCells_ok hcell hb1.2)]
                simp
              refine wp_skipped hrun (hnext undef _ ρ T ?_)
              have hG : Grow (fun c => c = b) w (putBlock w b (overAt vs.toList off (a.eval y).cells.toList).toArray e) :=
                Grow.put h7 (by rw [List.size_toArray, overAt_len (by simpa using hfit)]; simp) _ rfl
              have hGT : Grow T w (putBlock w b (overAt vs.toList off (a.eval y).cells.toList).toArray e) :=
                hG.mono fun c _ hc => by rw [hc]; exact hTb
              exact {
                names := fun _ _ h => h
                only := fun _ _ h => .inl h
                val := ⟨#[], rfl, rfl⟩
                turned := fun i sb hi => by
                  simp only [List.mem_singleton, Prod.mk.injEq, Option.some.injEq] at hi
                  obtain ⟨rfl, rfl⟩ := hi
                  exact ⟨b, h2, hTb, _, putBlock_at (Array.getElem?_eq_some_iff.1 h7).1, by
                    simpa using relL_mono (fun _ _ h => h) (fun _ _ h => h) hGT _ _ h10⟩
                keys := fun i ob hi => by
                  simp only [List.mem_singleton, Prod.mk.injEq] at hi
                  left; simp [hi.1]
                cover := fun i hi => by obtain rfl := List.mem_singleton.1 hi; exact ⟨_, List.mem_singleton.2 rfl⟩
                fresh := fun i b h1 h2 _ => by omega
                inj := fun i j b _ h1 h2 _ _ _ => by omega
                grow := hG.mono fun c _ hc => ⟨id, by simp, by rw [hc]; exact h2⟩
                tback := fun _ _ h => h
                below := fun i b h1 h2 _ => by omega
                tkeep := fun _ _ h => .inl h }
          · exact h.elim
      · exact h.elim
    · exact h.elim

end
end Go.Se
