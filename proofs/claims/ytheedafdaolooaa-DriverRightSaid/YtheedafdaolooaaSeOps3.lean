/- Part 4: operators and conversions. -/
import Derived.Test.YtheedafdaolooaaSeEq
namespace Go.Se
variable {P : Program}

theorem kind_ptr {t e : TypeId} {ti : TI} (ht : TIok P t ti) (hk : ti.kind = .ptr e) : P.underlying t = some (.pointer e) := by
  obtain ⟨_, ⟨d, hd, h⟩, _⟩ := ht
  rw [hk] at h
  cases d <;> simp only [kindOf, Option.some.injEq, reduceCtorEq] at h
  · injection h with h1; rw [← h1]; exact hd
  · rename_i fs
    cases hb : fs.toList.all (fun f => f.name != "_") <;> rw [hb] at h <;> simp at h

theorem kind_iface {t : TypeId} {ti : TI} {n : Bool} (ht : TIok P t ti) (hk : ti.kind = .iface n) : ∃ ms, P.underlying t = some (.interface ms) ∧ n = ms.isEmpty := by
  obtain ⟨_, ⟨d, hd, h⟩, _⟩ := ht
  rw [hk] at h
  cases d <;> simp only [kindOf, Option.some.injEq, reduceCtorEq] at h
  · rename_i fs
    cases hb : fs.toList.all (fun f => f.name != "_") <;> rw [hb] at h <;> simp at h
  · rename_i ms
    injection h with h; exact ⟨ms, hd, h.symm⟩

theorem kindIs_elim {tt : TypeId → Option TI} {t : TypeId} {p : TK → Bool} (h : kindIs tt t p = true) : ∃ ti, tt t = some ti ∧ p ti.kind = true := by
  unfold kindIs at h
  split at h
  · rename_i ti ht; exact ⟨ti, ht, h⟩
  · cases h

theorem eqE_elim {op : BinOp} {b : Bool} {K : SV → Prop} (h : eqE op b K) : (op = .eql ∧ K (.bool b)) ∨ (op = .neq ∧ K (.bool (!b))) := by
  cases op <;> simp only [eqE] at h <;> simp [h]

section
variable (w : World) (d : Nat) (t : TypeId)
theorem eqP0 {e : TypeId} (h : P.underlying t = some (.pointer e)) : (Op.equalIn (d + 1) t (.pointer none) (.pointer none)).run P w = .ok true w := by
  simp only [Op.equalIn, Sem.run_bind, Go.underlying, run_program, h, Result.andThen_ok, Sem.run_pure]; rfl
theorem eqP1 {e : TypeId} (a : Addr) (h : P.underlying t = some (.pointer e)) : (Op.equalIn (d + 1) t (.pointer (some a)) (.pointer none)).run P w = .ok false w := by
  simp only [Op.equalIn, Sem.run_bind, Go.underlying, run_program, h, Result.andThen_ok, Sem.run_pure]
theorem eqI0 {ms : Array (String × TypeId)} (h : P.underlying t = some (.interface ms)) : (Op.equalIn (d + 1) t .nilIface .nilIface).run P w = .ok true w := by
  simp only [Op.equalIn, Sem.run_bind, Go.underlying, run_program, h, Result.andThen_ok, Sem.run_pure]
theorem eqI1 {ms : Array (String × TypeId)} (u : TypeId) (x : Value) (h : P.underlying t = some (.interface ms)) : (Op.equalIn (d + 1) t (.iface u x) .nilIface).run P w = .ok false w := by
  simp only [Op.equalIn, Sem.run_bind, Go.underlying, run_program, h, Result.andThen_ok, Sem.run_pure]
theorem eqS0 {e : TypeId} (h : P.underlying t = some (.slice e)) : (Op.equalIn (d + 1) t (.slice none 0 0) (.slice none 0 0)).run P w = .ok true w := by
  simp only [Op.equalIn, Sem.run_bind, Go.underlying, run_program, h, Result.andThen_ok, Sem.run_pure]; rfl
theorem eqS1 {e : TypeId} (a : Addr) (n m : Nat) (h : P.underlying t = some (.slice e)) : (Op.equalIn (d + 1) t (.slice (some a) n m) (.slice none 0 0)).run P w = .ok false w := by
  simp only [Op.equalIn, Sem.run_bind, Go.underlying, run_program, h, Result.andThen_ok, Sem.run_pure]
end

theorem depth_le (P : Program) : 12 ≤ P.depth := by unfold Program.depth Made.depth; omega

theorem guard_plain (op : BinOp) (t : TypeId) (xo yo : Operand) (x y : Value) (w : World) (h : (match x, y with | .nilIface, .nilIface => false | .agg _, .agg _ => false | _, _ => true) = true) :
    (eqGuard op t xo yo x y).run P w = .ok () w := by
  unfold eqGuard
  cases op <;> first | rfl | (cases x <;> cases y <;> first | rfl | (simp at h; done))

/-- What an operator comes to, whatever the memory. -/
def OpVal (P : Program) (op : BinOp) (t : TypeId) (xo yo : Operand) (x y v : SV) : Prop :=
  ∀ (ρ : Names) (T : Nat → Prop) (w : World) (xv yv : Value), rel ρ T w x xv → rel ρ T w y yv →
    ∃ r, (eqGuard op t xo yo xv yv).run P w = .ok () w ∧ (Go.binOp op t xv yv).run P w = .ok r w ∧ rel ρ T w v r

theorem eq_case {op : BinOp} {t : TypeId} {xo yo : Operand} {x y : SV} {b : Bool} {K : SV → Prop} (h : eqE op b K)
    (H : ∀ (ρ : Names) (T : Nat → Prop) (w : World) (xv yv : Value), rel ρ T w x xv → rel ρ T w y yv →
      (eqGuard op t xo yo xv yv).run P w = .ok () w ∧ (Op.equalIn Op.maxDepth t xv yv).run P w = .ok b w ∧
      Go.binOp .eql t xv yv = (do Pure.pure (.bool (← Op.equal t xv yv))) ∧ Go.binOp .neq t xv yv = (do Pure.pure (.bool (!(← Op.equal t xv yv))))) :
    ∃ v, K v ∧ OpVal P op t xo yo x y v := by
  rcases eqE_elim h with ⟨rfl, h⟩ | ⟨rfl, h⟩
  · refine ⟨_, h, fun ρ T w xv yv hx hy => ?_⟩
    obtain ⟨h1, h2, h3, _⟩ := H ρ T w xv yv hx hy
    exact ⟨_, h1, by rw [h3]; simp [Op.equal, h2], rfl⟩
  · refine ⟨_, h, fun ρ T w xv yv hx hy => ?_⟩
    obtain ⟨h1, h2, _, h3⟩ := H ρ T w xv yv hx hy
    exact ⟨_, h1, by rw [h3]; simp [Op.equal, h2], rfl⟩

theorem int_case {op : BinOp} {t : TypeId} {xo yo : Operand} {j k : IntKind} {a b : Int} {K : SV → Prop} (hk : (op = .shl ∨ op = .shr) ∨ j = k) (h : binInt op j a b K) :
    ∃ v, K v ∧ OpVal P op t xo yo (.int j a) (.int k b) v := by
  by_cases ha : j.min ≤ a ∧ a ≤ j.max
  · obtain ⟨v, hv, hr⟩ := binInt_ok (P := P) ha h t
    refine ⟨v, hv, fun ρ T w xv yv hx hy => ?_⟩
    obtain ⟨rfl, _⟩ := hx
    obtain ⟨rfl, _⟩ := hy
    obtain ⟨r, hr1, hr2⟩ := hr ρ T w k hk
    exact ⟨r, guard_plain _ _ _ _ _ _ _ rfl, hr1, hr2⟩
  · have : ∃ v, K v := by
      cases op <;> simp only [binInt] at h
      case quo => exact ⟨_, (If.elim h).2⟩
      case rem => exact ⟨_, (If.elim h).2⟩
      case shl => exact ⟨_, (If.elim h).2⟩
      case shr => exact ⟨_, (If.elim h).2⟩
      all_goals exact ⟨_, h⟩
    obtain ⟨v, hv⟩ := this
    exact ⟨v, hv, fun ρ T w xv yv hx _ => absurd hx.2 ha⟩

theorem binOpE_ok {tt : TypeId → Option TI} (htt : ∀ t ti, tt t = some ti → TIok P t ti) {op : BinOp} {t : TypeId} {cst : Bool} {x y : SV} {K : SV → Prop}
    (h : binOpE tt op t cst x y K) {xo yo : Operand} (hc : cst = true → isConst xo = true ∨ isConst yo = true) : ∃ v, K v ∧ OpVal P op t xo yo x y v := by
  unfold binOpE at h
  split at h
  · rename_i j a k b
    split at h
    · exact int_case (.inl (.inl rfl)) h
    · exact int_case (.inl (.inr rfl)) h
    · split at h
      · rename_i hjk; exact int_case (.inr (of_decide_eq_true hjk)) h
      · exact h.elim
  · rename_i a b
    cases hki : kindIs tt t isBoolK with
    | false => rw [hki] at h; exact h.elim
    | true =>
      rw [hki] at h
      obtain ⟨ti, ht, hk⟩ := kindIs_elim hki
      have hkb : ti.kind = .bool := by cases hkk : ti.kind <;> rw [hkk] at hk <;> first | rfl | cases hk
      refine eq_case h fun ρ T w xv yv hx hy => ?_
      cases hx; cases hy
      exact ⟨guard_plain _ _ _ _ _ _ _ rfl, run_equalIn_bool' w 9999 t a b (kind_bool (htt _ _ ht) hkb), by simp [Go.binOp], by simp [Go.binOp]⟩
  · rename_i a b
    split at h
    · obtain ⟨hs, h⟩ := If.elim h
      have hs' : a.size + b.size < 9223372036854775808 := by simpa using hs
      refine ⟨_, h, fun ρ T w xv yv hx hy => ?_⟩
      obtain ⟨rfl, ha⟩ := hx
      obtain ⟨rfl, hb⟩ := hy
      refine ⟨.string (a ++ b), guard_plain _ _ _ _ _ _ _ rfl, ?_, rfl, by simpa [ByteArray.size_append] using hs'⟩
      have : ¬ ((a.size + b.size : Nat) : Int) > IntKind.i64.max := by
        show ¬ _ > (9223372036854775807 : Int); omega
      simp only [Go.binOp, Op.stringOp, if_neg this]
      rfl
    · rcases eqE_elim h with ⟨rfl, h⟩ | ⟨rfl, h⟩
      · refine ⟨_, h, fun ρ T w xv yv hx hy => ?_⟩
        obtain ⟨rfl, ha⟩ := hx
        obtain ⟨rfl, hb⟩ := hy
        exact ⟨.bool (a == b), guard_plain _ _ _ _ _ _ _ rfl, by simp [Go.binOp, Op.stringOp, beq_toListBytes], rfl⟩
      · refine ⟨_, h, fun ρ T w xv yv hx hy => ?_⟩
        obtain ⟨rfl, ha⟩ := hx
        obtain ⟨rfl, hb⟩ := hy
        exact ⟨.bool (!(a == b)), guard_plain _ _ _ _ _ _ _ rfl, by simp [Go.binOp, Op.stringOp, beq_toListBytes], rfl⟩
  · cases hki : kindIs tt t isPtrK with
    | false => rw [hki] at h; exact h.elim
    | true =>
      rw [hki] at h
      obtain ⟨ti, ht, hk⟩ := kindIs_elim hki
      obtain ⟨e, hkb⟩ : ∃ e, ti.kind = .ptr e := by cases hkk : ti.kind <;> rw [hkk] at hk <;> first | exact ⟨_, rfl⟩ | cases hk
      refine eq_case h fun ρ T w xv yv hx hy => ?_
      cases hx; cases hy
      exact ⟨guard_plain _ _ _ _ _ _ _ rfl, eqP0 w 9999 t (kind_ptr (htt _ _ ht) hkb), by simp [Go.binOp], by simp [Go.binOp]⟩
  · cases hki : kindIs tt t isPtrK with
    | false => rw [hki] at h; exact h.elim
    | true =>
      rw [hki] at h
      obtain ⟨ti, ht, hk⟩ := kindIs_elim hki
      obtain ⟨e, hkb⟩ : ∃ e, ti.kind = .ptr e := by cases hkk : ti.kind <;> rw [hkk] at hk <;> first | exact ⟨_, rfl⟩ | cases hk
      refine eq_case h fun ρ T w xv yv hx hy => ?_
      obtain ⟨b, _, rfl⟩ := hx
      cases hy
      exact ⟨guard_plain _ _ _ _ _ _ _ rfl, eqP1 w 9999 t _ (kind_ptr (htt _ _ ht) hkb), by simp [Go.binOp], by simp [Go.binOp]⟩
  · cases hki : kindIs tt t isPtrK with
    | false => rw [hki] at h; exact h.elim
    | true =>
      rw [hki] at h
      obtain ⟨ti, ht, hk⟩ := kindIs_elim hki
      obtain ⟨e, hkb⟩ : ∃ e, ti.kind = .ptr e := by cases hkk : ti.kind <;> rw [hkk] at hk <;> first | exact ⟨_, rfl⟩ | cases hk
      refine eq_case h fun ρ T w xv yv hx hy => ?_
      obtain ⟨b, o, rfl, _⟩ := hx
      cases hy
      exact ⟨guard_plain _ _ _ _ _ _ _ rfl, eqP1 w 9999 t _ (kind_ptr (htt _ _ ht) hkb), by simp [Go.binOp], by simp [Go.binOp]⟩
  · cases hki : kindIs tt t isIfaceK && cst with
    | false => rw [hki] at h; exact h.elim
    | true =>
      rw [hki] at h
      simp only [Bool.and_eq_true] at hki
      obtain ⟨ti, ht, hk⟩ := kindIs_elim hki.1
      obtain ⟨e, hkb⟩ : ∃ e, ti.kind = .iface e := by cases hkk : ti.kind <;> rw [hkk] at hk <;> first | exact ⟨_, rfl⟩ | cases hk
      obtain ⟨ms, hm, _⟩ := kind_iface (htt _ _ ht) hkb
      refine eq_case h fun ρ T w xv yv hx hy => ?_
      cases hx; cases hy
      refine ⟨?_, eqI0 w 9999 t hm, by simp [Go.binOp], by simp [Go.binOp]⟩
      unfold eqGuard
      rcases hc hki.2 with hx | hx
      · cases xo <;> simp only [isConst, Bool.false_eq_true] at hx
        cases op <;> rfl
      · cases yo <;> simp only [isConst, Bool.false_eq_true] at hx
        cases op <;> first | rfl | (cases xo <;> rfl)
  · cases hki : kindIs tt t isIfaceK with
    | false => rw [hki] at h; exact h.elim
    | true =>
      rw [hki] at h
      obtain ⟨ti, ht, hk⟩ := kindIs_elim hki
      obtain ⟨e, hkb⟩ : ∃ e, ti.kind = .iface e := by cases hkk : ti.kind <;> rw [hkk] at hk <;> first | exact ⟨_, rfl⟩ | cases hk
      obtain ⟨ms, hm, _⟩ := kind_iface (htt _ _ ht) hkb
      refine eq_case h fun ρ T w xv yv hx hy => ?_
      obtain ⟨b, rfl, _⟩ := hx
      cases hy
      exact ⟨guard_plain _ _ _ _ _ _ _ rfl, eqI1 w 9999 t _ _ hm, by simp [Go.binOp], by simp [Go.binOp]⟩
  · cases hki : kindIs tt t isAgg with
    | false => rw [hki] at h; exact h.elim
    | true =>
    rw [hki] at h
    obtain ⟨ti, ht, hag⟩ := kindIs_elim hki
    simp only [cond_true] at h
    split at h
    · rename_i b hb'
      refine eq_case h fun ρ T w xv yv hx hy => ?_
      obtain ⟨a, rfl, ha⟩ := hx
      obtain ⟨c, rfl, hb⟩ := hy
      exact ⟨run_eqGuard_agg w op t xo yo a c (eqSV_guard htt 12 P.depth t _ _ b (depth_le P) hb'),
        eqSV_ok htt (ρ := ρ) (T := T) (w := w) 12 Op.maxDepth t ti _ _ b (.agg a) (.agg c) (by decide) ht hb' (.inl ⟨hag, a, rfl, ha⟩) (.inl ⟨hag, c, rfl, hb⟩),
        by simp [Go.binOp], by simp [Go.binOp]⟩
    · exact h.elim
  · split at h
    · rename_i b hb
      cases hki : kindIs tt t isSliceK with
      | false => rw [hki] at h; exact h.elim
      | true =>
        rw [hki] at h
        obtain ⟨ti, ht, hk⟩ := kindIs_elim hki
        obtain ⟨e, hkb⟩ : ∃ e, ti.kind = .slice e := by cases hkk : ti.kind <;> rw [hkk] at hk <;> first | exact ⟨_, rfl⟩ | cases hk
        have hu := kind_slice (htt _ _ ht) hkb
        unfold nilSlice at hb
        refine eq_case h fun ρ T w xv yv hx hy => ?_
        cases hy
        split at hb
        · cases hx; cases hb
          exact ⟨guard_plain _ _ _ _ _ _ _ rfl, eqS0 w 9999 t hu, by simp [Go.binOp], by simp [Go.binOp]⟩
        · obtain ⟨⟨b, _, rfl⟩, _⟩ := hx
          cases hb
          exact ⟨guard_plain _ _ _ _ _ _ _ rfl, eqS1 w 9999 t _ _ _ hu, by simp [Go.binOp], by simp [Go.binOp]⟩
        · obtain ⟨b, c, _, rfl, _⟩ := hx
          cases hb
          exact ⟨guard_plain _ _ _ _ _ _ _ rfl, eqS1 w 9999 t _ _ _ hu, by simp [Go.binOp], by simp [Go.binOp]⟩
        · cases hb
    · exact h.elim
  · exact h.elim

end Go.Se

/- Part 5: the operations that only compute, as operations. -/
namespace Go.Se
variable {P : Program}

theorem sel_ok {ρ : Names} {T : Nat → Prop} {w : World} {x y : SV} {xv yv : Value} (b : Bool) (hx : b = true → rel ρ T w x xv) (hy : b = false → rel ρ T w y yv) :
    rel ρ T w (sel b x y) (if b then xv else yv) := by
  unfold sel
  split
  · split
    · rename_i hjk
      obtain rfl := of_decide_eq_true hjk
      cases b
      · exact hy rfl
      · exact hx rfl
    · cases b
      · exact hy rfl
      · exact hx rfl
  · cases b
    · exact hy rfl
    · exact hx rfl
  · cases b
    · exact hy rfl
    · exact hx rfl

section
variable {st : St} {o : Oper} {K : KV} {tt : TypeId → Option TI} (htt : ∀ t ti, tt t = some ti → TIok P t ti)

theorem good_move {x : Operand} (ho : o.op = .move x) (h : K (eval st.tmps x) [] st.nxt [] []) : Good P st o K :=
  Good.pure h (OpOK.pure fun ρ T a w hx => ⟨a.eval x, by simp [execOp, ho], hx x (by simp [ho, Op.operands])⟩)

theorem good_assign {x : Operand} (ho : o.op = .assign x) (h : K (eval st.tmps x) [] st.nxt [] []) : Good P st o K :=
  Good.pure h (OpOK.pure fun ρ T a w hx => ⟨a.eval x, by simp [execOp, ho], hx x (by simp [ho, Op.operands])⟩)

theorem good_pick {c x y : Operand} {b : Bool} (ho : o.op = .pick c x y) (hc : eval st.tmps c = .bool b) (h : K (sel b (eval st.tmps x) (eval st.tmps y)) [] st.nxt [] []) : Good P st o K :=
  Good.pure h (OpOK.pure fun ρ T a w hx => by
    have h1 := hx c (by simp [ho, Op.operands])
    rw [hc] at h1
    refine ⟨if b then a.eval x else a.eval y, ?_, sel_ok b (fun _ => hx x (by simp [ho, Op.operands])) (fun _ => hx y (by simp [ho, Op.operands]))⟩
    have h2 : a.eval c = .bool b := h1
    simp [execOp, ho, h2, asBool])

theorem relL_map {ρ : Names} {T : Nat → Prop} {w : World} {l : Tmps} {a : Act} : ∀ (xs : List Operand), (∀ x, x ∈ xs → rel ρ T w (eval l x) (a.eval x)) →
    relL ρ T w (xs.map (eval l)) (xs.map a.eval)
  | [], _ => rfl
  | x :: xs, h => ⟨_, _, rfl, h x (by simp), relL_map xs fun y hy => h y (by simp [hy])⟩

theorem good_makeFunc {f : Fn} {x y : Array Operand} (ho : o.op = .makeFunc f x y)
    (h : K (.fn f (x.toList.map (eval st.tmps)) (y.toList.map (eval st.tmps))) [] st.nxt [] []) : Good P st o K :=
  Good.pure h (OpOK.pure fun ρ T a w hx => by
    refine ⟨.func f (x.map a.eval) (y.map a.eval), by simp [execOp, ho, Instr.makeFunc], _, _, rfl, ?_, ?_⟩
    · rw [Array.toList_map]; exact relL_map _ fun z hz => hx z (by simp [ho, Op.operands]; exact .inl (by simpa using hz))
    · rw [Array.toList_map]; exact relL_map _ fun z hz => hx z (by simp [ho, Op.operands]; exact .inr (by simpa using hz)))

theorem relL_get {ρ : Names} {T : Nat → Prop} {w : World} : ∀ {l : List SV} {m : List Value} (i : Nat) {v : SV}, relL ρ T w l m → l[i]? = some v → ∃ x, m[i]? = some x ∧ rel ρ T w v x
  | [], _, _, _, _, h => by simp at h
  | a :: l, m, 0, v, ⟨x, r, h1, h2, h3⟩, h => by
    simp only [List.getElem?_cons_zero, Option.some.injEq] at h
    subst h; rw [h1]; exact ⟨x, by simp, h2⟩
  | a :: l, m, i + 1, v, ⟨x, r, h1, h2, h3⟩, h => by
    rw [h1]; simpa using relL_get i h3 (by simpa using h)

theorem good_extract {x : Operand} {i : Nat} {vs : List SV} {v : SV} (ho : o.op = .extract x i) (hx : eval st.tmps x = .tup vs) (hv : vs[i]? = some v) (h : K v [] st.nxt [] []) : Good P st o K :=
  Good.pure h (OpOK.pure fun ρ T a w hr => by
    have h1 := hr x (by simp [ho, Op.operands])
    rw [hx] at h1
    obtain ⟨c, h2, h3⟩ := h1
    obtain ⟨y, h4, h5⟩ := relL_get i h3 hv
    refine ⟨y, ?_, h5⟩
    have h6 : c[i]? = some y := by simpa using h4
    simp [execOp, ho, h2, Instr.extract, h6])

theorem good_nilCheck {x : Operand} (ho : o.op = .nilCheck x) (hp : (match eval st.tmps x with | .ptr _ _ => true | .rptr _ => true | _ => false) = true)
    (h : K (eval st.tmps x) [] st.nxt [] []) : Good P st o K :=
  Good.pure h (OpOK.pure fun ρ T a w hr => by
    have h1 := hr x (by simp [ho, Op.operands])
    refine ⟨a.eval x, ?_, h1⟩
    cases he : eval st.tmps x <;> rw [he] at hp h1 <;> simp only [Bool.false_eq_true] at hp
    · obtain ⟨b, _, h2⟩ := h1
      simp [execOp, ho, h2]
    · obtain ⟨b, o, h2, _⟩ := h1
      simp [execOp, ho, h2])

theorem good_makeInterface {t : TypeId} {x : Operand} {ti : TI} (ho : o.op = .makeInterface t x) (ht : TIok P t ti) (hi : isIfaceK ti.kind = false)
    (h : K (.iface t (eval st.tmps x)) [] st.nxt [] []) : Good P st o K :=
  Good.pure h (OpOK.pure fun ρ T a w hr => by
    obtain ⟨d, hd, hd2, hk⟩ := ht.underlying (w := w)
    refine ⟨.iface t (a.eval x), ?_, _, rfl, hr x (by simp [ho, Op.operands])⟩
    simp only [execOp, ho, Instr.makeInterface, Sem.run_bind, hd, Result.andThen_ok]
    cases d <;> first
      | rfl
      | (simp only [kindOf, Option.some.injEq] at hk; rw [← hk] at hi; cases hi))

theorem good_unOp {op : UnOp} {t : TypeId} {x : Operand} (ho : o.op = .unOp op t x) (h : unOpE op (eval st.tmps x) fun v => K v [] st.nxt [] []) : Good P st o K := by
  unfold unOpE at h
  split at h
  · rename_i k n he
    refine Good.pure h (OpOK.pure fun ρ T a w hr => ?_)
    have h1 := hr x (by simp [ho, Op.operands])
    rw [he] at h1
    exact ⟨.int k (k.wrap (0 - n)), by simp [execOp, ho, h1.1, Op.unary, Op.intArith], rfl, wrap_in _ _⟩
  · rename_i k n he
    refine Good.pure h (OpOK.pure fun ρ T a w hr => ?_)
    have h1 := hr x (by simp [ho, Op.operands])
    rw [he] at h1
    refine ⟨.int k (k.wrap (BitVec.ofInt k.bits (if k.signed then -1 else k.max) ^^^ BitVec.ofInt k.bits n).toNat), ?_, rfl, wrap_in _ _⟩
    simp only [execOp, ho, h1.1]
    rfl
  · rename_i b he
    refine Good.pure h (OpOK.pure fun ρ T a w hr => ?_)
    have h1 := hr x (by simp [ho, Op.operands])
    rw [he] at h1
    have h2 : a.eval x = .bool b := h1
    exact ⟨.bool !b, by simp [execOp, ho, h2, Op.unary], rfl⟩
  · exact h.elim

include htt
theorem good_binOp {op : BinOp} {t ty : TypeId} {x y : Operand} (ho : o.op = .binOp op t x y ty)
    (h : binOpE tt op t (isConst x || isConst y) (eval st.tmps x) (eval st.tmps y) fun v => K v [] st.nxt [] []) : Good P st o K := by
  obtain ⟨v, hv, hr⟩ := binOpE_ok htt h (xo := x) (yo := y) (by simp)
  refine Good.pure hv (OpOK.pure fun ρ T a w hx => ?_)
  obtain ⟨r, h1, h2, h3⟩ := hr ρ T w _ _ (hx x (by simp [ho, Op.operands])) (hx y (by simp [ho, Op.operands]))
  exact ⟨r, by simp [execOp, ho, h1, h2], h3⟩

theorem good_convert {src dst : TypeId} {x : Operand} (ho : o.op = .convert src dst x)
    (h : convertE tt src dst (eval st.tmps x) fun v => K v [] st.nxt [] []) : Good P st o K := by
  unfold convertE at h
  split at h
  · rename_i ts ti hs hd
    split at h
    · rename_i k j n hk he
      refine Good.pure h (OpOK.pure fun ρ T a w hr => ?_)
      have h1 := hr x (by simp [ho, Op.operands])
      rw [he] at h1
      obtain ⟨d, hd1, _⟩ := (htt _ _ hs).underlying (w := w)
      have hu : ∀ w, (Go.underlying dst).run P w = .ok (.int k) w := fun w => by simp [Go.underlying, kind_int (htt _ _ hd) hk]
      refine ⟨.int k (k.wrap n), ?_, rfl, wrap_in _ _⟩
      simp only [execOp, ho, h1.1, Go.convert, Sem.run_bind, hd1, Result.andThen_ok, hu]
      rfl
    · exact h.elim
  · exact h.elim

omit htt in
theorem relAt_drop {T : Nat → Prop} {w : World} : ∀ (k : Nat) {cs : List SV} {b o : Nat}, relAt T w cs b o → relAt T w (cs.drop k) b (o + k)
  | 0, _, _, _, h => h
  | k + 1, [], _, _, _ => by simp [relAt]
  | k + 1, c :: cs, b, o, h => by
    have := relAt_drop k h.2
    rw [show o + 1 + k = o + (k + 1) by omega] at this
    exact this

theorem fieldPlace_ok {t : TypeId} {ti : TI} {fs : List (Nat × TypeId)} {f off size : Nat} (ht : TIok P t ti) (hk : ti.kind = .struct fs) (h : fieldPlace tt fs f = some (off, size)) :
    ∃ gs : Array Field, P.underlying t = some (.struct gs) ∧ ∃ g, gs[f]? = some g ∧ g.offset = off ∧ ∃ tf, TIok P g.type tf ∧ tf.size = size ∧ tt g.type = some tf := by
  obtain ⟨gs, hgs, rfl, _⟩ := kind_struct ht hk
  unfold fieldPlace at h
  rw [List.getElem?_map] at h
  cases hg : gs.toList[f]? with
  | none => rw [hg] at h; cases h
  | some g =>
    rw [hg] at h
    simp only [Option.map_some] at h
    split at h
    · rename_i u hu
      cases h
      exact ⟨gs, hgs, g, by simpa using hg, rfl, u, htt _ _ hu, rfl, hu⟩
    · cases h

theorem good_fieldAddr {env : Env} (he : env.tt = tt) {s : TypeId} {x : Operand} {f : Nat} (ho : o.op = .fieldAddr s x f)
    (h : fieldAddrE env s (eval st.tmps x) f fun v => K v [] st.nxt [] []) : Good P st o K := by
  unfold fieldAddrE at h
  rw [he] at h
  split at h
  · exact h.elim
  · rename_i ti ht
    split at h
    · rename_i fs hk
      split at h
      · rename_i off size hf
        obtain ⟨gs, hgs, g, hg, rfl, tf, htf, rfl, _⟩ := fieldPlace_ok htt (htt _ _ ht) hk hf
        have hu : ∀ w, (Go.underlying s).run P w = .ok (.struct gs) w := fun w => by simp [Go.underlying, hgs]
        split at h
        · exact h.elim
        · rename_i n hn
          have hpl : ∀ (b o : Nat) w, (Go.fieldPlace ⟨b, o, none⟩ g).run P w = .ok ⟨b, o + g.offset, none⟩ w := fun b o w => by
            have hs : (sizeOf g.type).run P w = .ok (n + 1) w := by rw [htf.sizeOf, hn]
            simp only [Go.fieldPlace, Sem.run_bind, hs, Result.andThen_ok, Nat.add_one_ne_zero, if_false, add_off, Sem.run_pure]
          split at h
          · rename_i id o' hx
            refine Good.pure h (OpOK.pure fun ρ T a w hr => ?_)
            have h1 := hr x (by simp [ho, Op.operands])
            rw [hx] at h1
            obtain ⟨b, h2, h3⟩ := h1
            refine ⟨.pointer (some ⟨b, o' + g.offset, none⟩), ?_, b, h2, rfl⟩
            simp [execOp, ho, h3, Instr.fieldAt, hu, hg, Instr.sureAddr, hpl]
          · rename_i cs hx
            refine Good.pure h (OpOK.pure fun ρ T a w hr => ?_)
            have h1 := hr x (by simp [ho, Op.operands])
            rw [hx] at h1
            obtain ⟨b, off, h2, h3, h4, h5⟩ := h1
            refine ⟨.pointer (some ⟨b, off + g.offset, none⟩), ?_, b, _, rfl, h3, h4, relAt_drop _ h5⟩
            simp [execOp, ho, h2, Instr.fieldAt, hu, hg, Instr.sureAddr, hpl]
          · exact h.elim
      · exact h.elim
    · exact h.elim

theorem good_indexAddr {env : Env} (he : env.tt = tt) {t : TypeId} {x i : Operand} (ho : o.op = .indexAddr t x i)
    (h : indexAddrE env t (eval st.tmps x) (eval st.tmps i) fun v => K v [] st.nxt [] []) : Good P st o K := by
  unfold indexAddrE at h
  rw [he] at h
  split at h
  · rename_i ti j n ht hi
    split at h
    · rename_i len e hk
      split at h
      · rename_i te hte
        split at h
        · rename_i id off hx
          obtain ⟨hb, h⟩ := If.elim h
          simp only [Bool.and_eq_true, decide_eq_true_eq] at hb
          refine Good.pure h (OpOK.pure fun ρ T a w hr => ?_)
          have h1 := hr x (by simp [ho, Op.operands])
          have h2 := hr i (by simp [ho, Op.operands])
          rw [hx] at h1; rw [hi] at h2
          obtain ⟨b, h3, h4⟩ := h1
          have hu : ∀ w, (Go.underlying t).run P w = .ok (.array len e) w := fun w => by simp [Go.underlying, kind_array (htt _ _ ht) hk]
          refine ⟨.pointer (some ⟨b, off + n.toNat * te.size, none⟩), ?_, b, h3, rfl⟩
          simp [execOp, ho, h4, h2.1, Instr.indexAt, asIntOf, hu, Instr.sureAddr, hb, (htt _ _ hte).sizeOf, add_off]
        · exact h.elim
      · exact h.elim
    · rename_i e hk
      split at h
      · rename_i te hte
        have hu : ∀ w, (Go.underlying t).run P w = .ok (.slice e) w := fun w => by simp [Go.underlying, kind_slice (htt _ _ ht) hk]
        split at h
        · rename_i len s g hx
          split at h
          · rename_i hs
            obtain ⟨hb, h⟩ := If.elim h
            simp only [Bool.and_eq_true, decide_eq_true_eq] at hb
            have hs' := Nat.eq_of_beq_eq_true hs
            refine Good.pure h (OpOK.pure fun ρ T a w hr => ?_)
            have h1 := hr x (by simp [ho, Op.operands])
            have h2 := hr i (by simp [ho, Op.operands])
            rw [hx] at h1; rw [hi] at h2
            obtain ⟨ad, c, h3, h4, h5⟩ := h1
            obtain ⟨b, off, rfl, h6, h7, h8⟩ := h5 (by omega)
            refine ⟨.pointer (some ⟨b, off + n.toNat * te.size, none⟩), ?_, b, _, rfl, h6, h7, ?_⟩
            · simp [execOp, ho, h3, h2.1, Instr.indexAt, asIntOf, hu, hb, (htt _ _ hte).sizeOf, add_off]
            · have := h8 n.toNat (by omega)
              rw [hs'] at this
              exact this
          · exact h.elim
        · rename_i id off len c hx
          obtain ⟨hb, h⟩ := If.elim h
          simp only [Bool.and_eq_true, decide_eq_true_eq] at hb
          refine Good.pure h (OpOK.pure fun ρ T a w hr => ?_)
          have h1 := hr x (by simp [ho, Op.operands])
          have h2 := hr i (by simp [ho, Op.operands])
          rw [hx] at h1; rw [hi] at h2
          obtain ⟨⟨b, h3, h4⟩, _⟩ := h1
          refine ⟨.pointer (some ⟨b, off + n.toNat * te.size, none⟩), ?_, b, h3, rfl⟩
          simp [execOp, ho, h4, h2.1, Instr.indexAt, asIntOf, hu, hb, (htt _ _ hte).sizeOf, add_off]
        · exact h.elim
      · exact h.elim
    · exact h.elim
  · exact h.elim

omit htt in
theorem relV_ofCells {ti : TI} {ρ : Names} {T : Nat → Prop} {w : World} {cs : List SV} {x : Value} {v : SV} (h : ofCells ti cs = some v) (hr : relV ti ρ T w cs x) : rel ρ T w v x := by
  unfold ofCells at h
  rcases hr with ⟨hk, a, rfl, ha⟩ | ⟨hk, u, rfl, hu⟩
  · rw [hk] at h
    simp only [cond_true] at h
    cases hb : Nat.beq cs.length ti.size <;> rw [hb] at h <;> cases h
    exact ⟨a, rfl, ha⟩
  · rw [hk] at h
    cases h
    exact hu

omit htt in
theorem ofCells_shape {ti : TI} {cs : List SV} {v : SV} (h : ofCells ti cs = some v) : isAgg ti.kind = true ∨ ∃ u, cs = [u] := by
  unfold ofCells at h
  cases hk : isAgg ti.kind with
  | true => exact .inl rfl
  | false =>
    rw [hk] at h
    simp only [cond_false] at h
    split at h
    · exact .inr ⟨_, rfl⟩
    · cases h

theorem good_field {env : Env} (he : env.tt = tt) {t : TypeId} {x : Operand} {f : Nat} (ho : o.op = .field t x f)
    (h : fieldE env t (eval st.tmps x) f fun v => K v [] st.nxt [] []) : Good P st o K := by
  unfold fieldE at h
  rw [he] at h
  split at h
  · rename_i ti cs ht hx
    split at h
    · rename_i fs hk
      split at h
      · rename_i off u hf
        split at h
        · rename_i tu htu
          split at h
          · rename_i v hv
            obtain ⟨gs, hgs, rfl, _⟩ := kind_struct (htt _ _ ht) hk
            rw [List.getElem?_map] at hf
            cases hg : gs.toList[f]? with
            | none => rw [hg] at hf; cases hf
            | some g =>
              rw [hg] at hf
              cases hf
              refine Good.pure h (OpOK.pure fun ρ T a w hr => ?_)
              have h1 := hr x (by simp [ho, Op.operands])
              rw [hx] at h1
              obtain ⟨c, h2, h3⟩ := h1
              obtain ⟨y, h4, h5⟩ := part_ok (w := w) (htt _ _ htu) h3 g.offset (ofCells_shape hv)
              have hu : ∀ w, (Go.underlying t).run P w = .ok (.struct gs) w := fun w => by simp [Go.underlying, hgs]
              have hg' : gs[f]? = some g := by simpa using hg
              refine ⟨y, ?_, relV_ofCells hv h5⟩
              simp [execOp, ho, h2, Instr.field, hu, hg', asAgg, h4]
          · exact h.elim
        · exact h.elim
      · exact h.elim
    · exact h.elim
  · exact h.elim

theorem good_index {env : Env} (he : env.tt = tt) {t : TypeId} {x i : Operand} (ho : o.op = .index t x i)
    (h : indexE env t (eval st.tmps x) (eval st.tmps i) fun v => K v [] st.nxt [] []) : Good P st o K := by
  unfold indexE at h
  rw [he] at h
  split at h
  · rename_i ti j n ht hi
    split at h
    · rename_i len e cs hk hx
      split at h
      · rename_i te hte
        obtain ⟨hb, h⟩ := If.elim h
        simp only [Bool.and_eq_true, decide_eq_true_eq] at hb
        split at h
        · rename_i v hv
          refine Good.pure h (OpOK.pure fun ρ T a w hr => ?_)
          have h1 := hr x (by simp [ho, Op.operands])
          have h2 := hr i (by simp [ho, Op.operands])
          rw [hx] at h1; rw [hi] at h2
          obtain ⟨c, h3, h4⟩ := h1
          obtain ⟨y, h5, h6⟩ := part_ok (w := w) (htt _ _ hte) h4 (n.toNat * te.size) (ofCells_shape hv)
          have hu : ∀ w, (Go.underlying t).run P w = .ok (.array len e) w := fun w => by simp [Go.underlying, kind_array (htt _ _ ht) hk]
          refine ⟨y, ?_, relV_ofCells hv h6⟩
          simp [execOp, ho, h3, h2.1, Instr.index, asIntOf, hu, hb, (htt _ _ hte).sizeOf, h5]
        · exact h.elim
      · exact h.elim
    · rename_i s hk hx
      obtain ⟨hb, h⟩ := If.elim h
      simp only [Bool.and_eq_true, decide_eq_true_eq] at hb
      refine Good.pure h (OpOK.pure fun ρ T a w hr => ?_)
      have h1 := hr x (by simp [ho, Op.operands])
      have h2 := hr i (by simp [ho, Op.operands])
      rw [hx] at h1; rw [hi] at h2
      have hu : ∀ w, (Go.underlying t).run P w = .ok .string w := fun w => by simp [Go.underlying, kind_string (htt _ _ ht) hk]
      have hlt : n.toNat < s.size := by omega
      refine ⟨.int .u8 (s.data.getD n.toNat 0).toNat, ?_, rfl, ?_⟩
      · have hs : s[n.toNat]? = some (s.data.getD n.toNat 0) := by
          rw [getElem?_pos s n.toNat hlt]
          have : n.toNat < s.data.size := hlt
          simp only [Array.getD_eq_getD_getElem?, Array.getElem?_eq_getElem this, Option.getD_some]
          rfl
        simp [execOp, ho, h1.1, h2.1, Instr.index, asIntOf, hu, hb, hs]
        rfl
      · have := (s.data.getD n.toNat 0).toNat_lt
        show (0 : Int) ≤ _ ∧ _ ≤ (255 : Int)
        omega
    · exact h.elim
  · exact h.elim

end
end Go.Se

