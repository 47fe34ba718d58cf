/- Part 4: operators and conversions. -/
import Derived.LaidEqlPtr
import Derived.Test.YtjlmofhokbnloaaDoorSeOps
namespace Go.Se
variable {P : Program}

theorem kind_ptr {t e : TypeId} {ti : TI} (ht : TIok P t ti) (hk : ti.kind = .ptr e) : P.underlying t = some (.pointer e) := by
  obtain ⟨_, ⟨d, hd, h⟩, _⟩ := ht
  rw [hk] at h
  cases d <;> simp only [kindOf, Option.some.injEq, reduceCtorEq] at h
  · injection h with h1; rw [← h1]; exact hd
  · rename_i fs
    cases hb : fs.toList.all (fun f => f.name != "_") <;> rw [hb] at h <;> simp at h

theorem kind_iface {t : TypeId} {ti : TI} {n : Bool} (ht : TIok P t ti) (hk : ti.kind = .iface n) : ∃ ms, P.underlying t = some (.interface ms) ∧ n = ms.isEmpty := by
  obtain ⟨_, ⟨d, hd, h⟩, _⟩ := ht
  rw [hk] at h
  cases d <;> simp only [kindOf, Option.some.injEq, reduceCtorEq] at h
  · rename_i fs
    cases hb : fs.toList.all (fun f => f.name != "_") <;> rw [hb] at h <;> simp at h
  · rename_i ms
    injection h with h; exact ⟨ms, hd, h.symm⟩

theorem kindIs_elim {tt : TypeId → Option TI} {t : TypeId} {p : TK → Bool} (h : kindIs tt t p = true) : ∃ ti, tt t = some ti ∧ p ti.kind = true := by
  unfold kindIs at h
  split at h
  · rename_i ti ht; exact ⟨ti, ht, h⟩
  · cases h

theorem eqE_elim {op : BinOp} {b : Bool} {K : SV → Prop} (h : eqE op b K) : (op = .eql ∧ K (.bool b)) ∨ (op = .neq ∧ K (.bool (!b))) := by
  cases op <;> simp only [eqE] at h <;> simp [h]

section
variable (w : World) (d : Nat) (t : TypeId)
theorem eqP0 {e : TypeId} (h : P.underlying t = some (.pointer e)) : (Op.equalIn (d + 1) t (.pointer none) (.pointer none)).run P w = .ok true w := by
  simp only [Op.equalIn, Sem.run_bind, Go.underlying, run_program, h, Result.andThen_ok, Sem.run_pure]; rfl
theorem eqP1 {e : TypeId} (a : Addr) (h : P.underlying t = some (.pointer e)) : (Op.equalIn (d + 1) t (.pointer (some a)) (.pointer none)).run P w = .ok false w := by
  simp only [Op.equalIn, Sem.run_bind, Go.underlying, run_program, h, Result.andThen_ok, Sem.run_pure]
theorem eqP2 {e : TypeId} {j : TypeInfo} (a : Addr) (h : P.underlying t = some (.pointer e)) (hte : P.info? e = some j) : (Op.equalIn (d + 1) t (.pointer (some a)) (.pointer (some a))).run P w = .ok true w := by
  simp [Op.equalIn, run_underlying h, sizeOf, typeInfo, hte, run_sameAddr_same]
theorem eqI0 {ms : Array (String × TypeId)} (h : P.underlying t = some (.interface ms)) : (Op.equalIn (d + 1) t .nilIface .nilIface).run P w = .ok true w := by
  simp only [Op.equalIn, Sem.run_bind, Go.underlying, run_program, h, Result.andThen_ok, Sem.run_pure]
theorem eqI1 {ms : Array (String × TypeId)} (u : TypeId) (x : Value) (h : P.underlying t = some (.interface ms)) : (Op.equalIn (d + 1) t (.iface u x) .nilIface).run P w = .ok false w := by
  simp only [Op.equalIn, Sem.run_bind, Go.underlying, run_program, h, Result.andThen_ok, Sem.run_pure]
theorem eqS0 {e : TypeId} (h : P.underlying t = some (.slice e)) : (Op.equalIn (d + 1) t (.slice none 0 0) (.slice none 0 0)).run P w = .ok true w := by
  simp only [Op.equalIn, Sem.run_bind, Go.underlying, run_program, h, Result.andThen_ok, Sem.run_pure]; rfl
theorem eqS1 {e : TypeId} (a : Addr) (n m : Nat) (h : P.underlying t = some (.slice e)) : (Op.equalIn (d + 1) t (.slice (some a) n m) (.slice none 0 0)).run P w = .ok false w := by
  simp only [Op.equalIn, Sem.run_bind, Go.underlying, run_program, h, Result.andThen_ok, Sem.run_pure]
end

theorem depth_le (P : Program) : 12 ≤ P.depth := by unfold Program.depth Made.depth; omega

theorem guard_plain (op : BinOp) (t : TypeId) (xo yo : Operand) (x y : Value) (w : World) (h : (match x, y with | .nilIface, .nilIface => false | .agg _, .agg _ => false | _, _ => true) = true) :
    (eqGuard op t xo yo x y).run P w = .ok () w := by
  unfold eqGuard
  cases op <;> first | rfl | (cases x <;> cases y <;> first | rfl | (simp at h; done))

/-- What an operator comes to, whatever the memory. -/
def OpVal (P : Program) (op : BinOp) (t : TypeId) (xo yo : Operand) (x y v : SV) : Prop :=
  ∀ (ρ : Names) (T : Nat → Prop) (w : World) (xv yv : Value), rel ρ T w x xv → rel ρ T w y yv →
    ∃ r, (eqGuard op t xo yo xv yv).run P w = .ok () w ∧ (Go.binOp op t xv yv).run P w = .ok r w ∧ rel ρ T w v r

theorem eq_case {op : BinOp} {t : TypeId} {xo yo : Operand} {x y : SV} {b : Bool} {K : SV → Prop} (h : eqE op b K)
    (H : ∀ (ρ : Names) (T : Nat → Prop) (w : World) (xv yv : Value), rel ρ T w x xv → rel ρ T w y yv →
      (eqGuard op t xo yo xv yv).run P w = .ok () w ∧ (Op.equalIn Op.maxDepth t xv yv).run P w = .ok b w ∧
      Go.binOp .eql t xv yv = (do Pure.pure (.bool (← Op.equal t xv yv))) ∧ Go.binOp .neq t xv yv = (do Pure.pure (.bool (!(← Op.equal t xv yv))))) :
    ∃ v, K v ∧ OpVal P op t xo yo x y v := by
  rcases eqE_elim h with ⟨rfl, h⟩ | ⟨rfl, h⟩
  · refine ⟨_, h, fun ρ T w xv yv hx hy => ?_⟩
    obtain ⟨h1, h2, h3, _⟩ := H ρ T w xv yv hx hy
    exact ⟨_, h1, by rw [h3]; simp [Op.equal, h2], rfl⟩
  · refine ⟨_, h, fun ρ T w xv yv hx hy => ?_⟩
    obtain ⟨h1, h2, _, h3⟩ := H ρ T w xv yv hx hy
    exact ⟨_, h1, by rw [h3]; simp [Op.equal, h2], rfl⟩

theorem int_case {op : BinOp} {t : TypeId} {xo yo : Operand} {j k : IntKind} {a b : Int} {K : SV → Prop} (hk : (op = .shl ∨ op = .shr) ∨ j = k) (h : binInt op j a b K) :
    ∃ v, K v ∧ OpVal P op t xo yo (.int j a) (.int k b) v := by
  by_cases ha : j.min ≤ a ∧ a ≤ j.max
  · obtain ⟨v, hv, hr⟩ := binInt_ok (P := P) ha h t
    refine ⟨v, hv, fun ρ T w xv yv hx hy => ?_⟩
    obtain ⟨rfl, _⟩ := hx
    obtain ⟨rfl, _⟩ := hy
    obtain ⟨r, hr1, hr2⟩ := hr ρ T w k hk
    exact ⟨r, guard_plain _ _ _ _ _ _ _ rfl, hr1, hr2⟩
  · have : ∃ v, K v := by
      cases op <;> simp only [binInt] at h
      case quo => exact ⟨_, (If.elim h).2⟩
      case rem => exact ⟨_, (If.elim h).2⟩
      case shl => exact ⟨_, (If.elim h).2⟩
      case shr => exact ⟨_, (If.elim h).2⟩
      all_goals exact ⟨_, h⟩
    obtain ⟨v, hv⟩ := this
    exact ⟨v, hv, fun ρ T w xv yv hx _ => absurd hx.2 ha⟩

theorem binOpE_ok {tt : TypeId → Option TI} (htt : ∀ t ti, tt t = some ti → TIok P t ti) {op : BinOp} {t : TypeId} {cst : Bool} {x y : SV} {K : SV → Prop}
    (h : binOpE tt op t cst x y K) {xo yo : Operand} (hc : cst = true → isConst xo = true ∨ isConst yo = true) : ∃ v, K v ∧ OpVal P op t xo yo x y v := by
  unfold binOpE at h
  split at h
  · rename_i j a k b
    split at h
    · exact int_case (.inl (.inl rfl)) h
    · exact int_case (.inl (.inr rfl)) h
    · split at h
      · rename_i hjk; exact int_case (.inr (of_decide_eq_true hjk)) h
      · exact h.elim
  · rename_i a b
    cases hki : kindIs tt t isBoolK with
    | false => rw [hki] at h; exact h.elim
    | true =>
      rw [hki] at h
      obtain ⟨ti, ht, hk⟩ := kindIs_elim hki
      have hkb : ti.kind = .bool := by cases hkk : ti.kind <;> rw [hkk] at hk <;> first | rfl | cases hk
      refine eq_case h fun ρ T w xv yv hx hy => ?_
      cases hx; cases hy
      exact ⟨guard_plain _ _ _ _ _ _ _ rfl, run_equalIn_bool' w 9999 t a b (kind_bool (htt _ _ ht) hkb), by simp [Go.binOp], by simp [Go.binOp]⟩
  · rename_i a b
    split at h
    · obtain ⟨hs, h⟩ := If.elim h
      have hs' : a.size + b.size < 9223372036854775808 := by simpa using hs
      refine ⟨_, h, fun ρ T w xv yv hx hy => ?_⟩
      obtain ⟨rfl, ha⟩ := hx
      obtain ⟨rfl, hb⟩ := hy
      refine ⟨.string (a ++ b), guard_plain _ _ _ _ _ _ _ rfl, ?_, rfl, by simpa [ByteArray.size_append] using hs'⟩
      have : ¬ ((a.size + b.size : Nat) : Int) > IntKind.i64.max := by
        show ¬ _ > (9223372036854775807 : Int); omega
      simp only [Go.binOp, Op.stringOp, if_neg this]
      rfl
    · rcases eqE_elim h with ⟨rfl, h⟩ | ⟨rfl, h⟩
      · refine ⟨_, h, fun ρ T w xv yv hx hy => ?_⟩
        obtain ⟨rfl, ha⟩ := hx
        obtain ⟨rfl, hb⟩ := hy
        exact ⟨.bool (a == b), guard_plain _ _ _ _ _ _ _ rfl, by simp [Go.binOp, Op.stringOp, beq_toListBytes], rfl⟩
      · refine ⟨_, h, fun ρ T w xv yv hx hy => ?_⟩
        obtain ⟨rfl, ha⟩ := hx
        obtain ⟨rfl, hb⟩ := hy
        exact ⟨.bool (!(a == b)), guard_plain _ _ _ _ _ _ _ rfl, by simp [Go.binOp, Op.stringOp, beq_toListBytes], rfl⟩
  · cases hki : kindIs tt t isPtrK with
    | false => rw [hki] at h; exact h.elim
    | true =>
      rw [hki] at h
      obtain ⟨ti, ht, hk⟩ := kindIs_elim hki
      obtain ⟨e, hkb⟩ : ∃ e, ti.kind = .ptr e := by cases hkk : ti.kind <;> rw [hkk] at hk <;> first | exact ⟨_, rfl⟩ | cases hk
      refine eq_case h fun ρ T w xv yv hx hy => ?_
      cases hx; cases hy
      exact ⟨guard_plain _ _ _ _ _ _ _ rfl, eqP0 w 9999 t (kind_ptr (htt _ _ ht) hkb), by simp [Go.binOp], by simp [Go.binOp]⟩
  · cases hki : kindIs tt t isPtrK with
    | false => rw [hki] at h; exact h.elim
    | true =>
      rw [hki] at h
      obtain ⟨ti, ht, hk⟩ := kindIs_elim hki
      obtain ⟨e, hkb⟩ : ∃ e, ti.kind = .ptr e := by cases hkk : ti.kind <;> rw [hkk] at hk <;> first | exact ⟨_, rfl⟩ | cases hk
      refine eq_case h fun ρ T w xv yv hx hy => ?_
      obtain ⟨b, _, rfl⟩ := hx
      cases hy
      exact ⟨guard_plain _ _ _ _ _ _ _ rfl, eqP1 w 9999 t _ (kind_ptr (htt _ _ ht) hkb), by simp [Go.binOp], by simp [Go.binOp]⟩
  · cases hki : kindIs tt t isPtrK with
    | false => rw [hki] at h; exact h.elim
    | true =>
      rw [hki] at h
      obtain ⟨ti, ht, hk⟩ := kindIs_elim hki
      obtain ⟨e, hkb⟩ : ∃ e, ti.kind = .ptr e := by cases hkk : ti.kind <;> rw [hkk] at hk <;> first | exact ⟨_, rfl⟩ | cases hk
      refine eq_case h fun ρ T w xv yv hx hy => ?_
      obtain ⟨b, _, rfl⟩ := hx
      cases hy
      exact ⟨guard_plain _ _ _ _ _ _ _ rfl, eqP1 w 9999 t _ (kind_ptr (htt _ _ ht) hkb), by simp [Go.binOp], by simp [Go.binOp]⟩
  · cases hki : kindIs tt t isPtrK with
    | false => rw [hki] at h; exact h.elim
    | true =>
      rw [hki] at h
      obtain ⟨ti, ht, hk⟩ := kindIs_elim hki
      obtain ⟨e, hkb⟩ : ∃ e, ti.kind = .ptr e := by cases hkk : ti.kind <;> rw [hkk] at hk <;> first | exact ⟨_, rfl⟩ | cases hk
      refine eq_case h fun ρ T w xv yv hx hy => ?_
      obtain ⟨b, o, rfl, _⟩ := hx
      cases hy
      exact ⟨guard_plain _ _ _ _ _ _ _ rfl, eqP1 w 9999 t _ (kind_ptr (htt _ _ ht) hkb), by simp [Go.binOp], by simp [Go.binOp]⟩
  · rename_i i o j q
    cases hki : kindIs tt t (ptrTo tt) && (Nat.beq i j && Nat.beq o q) with
    | false => rw [hki] at h; exact h.elim
    | true =>
      rw [hki] at h
      simp only [Bool.and_eq_true] at hki
      obtain ⟨ti, ht, hk⟩ := kindIs_elim hki.1
      obtain rfl := Nat.eq_of_beq_eq_true hki.2.1
      obtain rfl := Nat.eq_of_beq_eq_true hki.2.2
      obtain ⟨e, hkb⟩ : ∃ e, ti.kind = .ptr e := by cases hkk : ti.kind <;> rw [hkk] at hk <;> first | exact ⟨_, rfl⟩ | cases hk
      rw [hkb] at hk
      obtain ⟨te, hte⟩ := Option.isSome_iff_exists.1 hk
      obtain ⟨⟨inf, hinf, _⟩, _, _⟩ := htt _ _ hte
      refine eq_case h fun ρ T w xv yv hx hy => ?_
      obtain ⟨b, hb, rfl⟩ := hx
      obtain ⟨c, hc, rfl⟩ := hy
      rw [hb] at hc; cases hc
      exact ⟨guard_plain _ _ _ _ _ _ _ rfl, eqP2 w 9999 t _ (kind_ptr (htt _ _ ht) hkb) hinf, by simp [Go.binOp], by simp [Go.binOp]⟩
  · cases hki : kindIs tt t isIfaceK && cst with
    | false => rw [hki] at h; exact h.elim
    | true =>
      rw [hki] at h
      simp only [Bool.and_eq_true] at hki
      obtain ⟨ti, ht, hk⟩ := kindIs_elim hki.1
      obtain ⟨e, hkb⟩ : ∃ e, ti.kind = .iface e := by cases hkk : ti.kind <;> rw [hkk] at hk <;> first | exact ⟨_, rfl⟩ | cases hk
      obtain ⟨ms, hm, _⟩ := kind_iface (htt _ _ ht) hkb
      refine eq_case h fun ρ T w xv yv hx hy => ?_
      cases hx; cases hy
      refine ⟨?_, eqI0 w 9999 t hm, by simp [Go.binOp], by simp [Go.binOp]⟩
      unfold eqGuard
      rcases hc hki.2 with hx | hx
      · cases xo <;> simp only [isConst, Bool.false_eq_true] at hx
        cases op <;> rfl
      · cases yo <;> simp only [isConst, Bool.false_eq_true] at hx
        cases op <;> first | rfl | (cases xo <;> rfl)
  · cases hki : kindIs tt t isIfaceK with
    | false => rw [hki] at h; exact h.elim
    | true =>
      rw [hki] at h
      obtain ⟨ti, ht, hk⟩ := kindIs_elim hki
      obtain ⟨e, hkb⟩ : ∃ e, ti.kind = .iface e := by cases hkk : ti.kind <;> rw [hkk] at hk <;> first | exact ⟨_, rfl⟩ | cases hk
      obtain ⟨ms, hm, _⟩ := kind_iface (htt _ _ ht) hkb
      refine eq_case h fun ρ T w xv yv hx hy => ?_
      obtain ⟨b, rfl, _⟩ := hx
      cases hy
      exact ⟨guard_plain _ _ _ _ _ _ _ rfl, eqI1 w 9999 t _ _ hm, by simp [Go.binOp], by simp [Go.binOp]⟩
  · cases hki : kindIs tt t isAgg with
    | false => rw [hki] at h; exact h.elim
    | true =>
    rw [hki] at h
    obtain ⟨ti, ht, hag⟩ := kindIs_elim hki
    simp only [cond_true] at h
    split at h
    · rename_i b hb'
      refine eq_case h fun ρ T w xv yv hx hy => ?_
      obtain ⟨a, rfl, ha⟩ := hx
      obtain ⟨c, rfl, hb⟩ := hy
      exact ⟨run_eqGuard_agg w op t xo yo a c (eqSV_guard htt 12 P.depth t _ _ b (depth_le P) hb'),
        eqSV_ok htt (ρ := ρ) (T := T) (w := w) 12 Op.maxDepth t ti _ _ b (.agg a) (.agg c) (by decide) ht hb' (.inl ⟨hag, a, rfl, ha⟩) (.inl ⟨hag, c, rfl, hb⟩),
        by simp [Go.binOp], by simp [Go.binOp]⟩
    · exact h.elim
  · cases hki : kindIs tt t isSliceK with
    | false => rw [hki] at h; exact h.elim
    | true =>
      rw [hki] at h
      simp only [cond_true] at h
      obtain ⟨hn, h⟩ := If.elim h
      have hn := of_decide_eq_true hn
      obtain ⟨ti, ht, hk⟩ := kindIs_elim hki
      obtain ⟨e, hkb⟩ : ∃ e, ti.kind = .slice e := by cases hkk : ti.kind <;> rw [hkk] at hk <;> first | exact ⟨_, rfl⟩ | cases hk
      have hu := kind_slice (htt _ _ ht) hkb
      refine eq_case h fun ρ T w xv yv hx hy => ?_
      cases hy
      obtain ⟨a, c, rfl, _, hx⟩ := hx
      obtain ⟨b, off, rfl, _⟩ := hx hn
      exact ⟨guard_plain _ _ _ _ _ _ _ rfl, eqS1 w 9999 t _ _ _ hu, by simp [Go.binOp], by simp [Go.binOp]⟩
  · split at h
    · rename_i b hb
      cases hki : kindIs tt t isSliceK with
      | false => rw [hki] at h; exact h.elim
      | true =>
        rw [hki] at h
        obtain ⟨ti, ht, hk⟩ := kindIs_elim hki
        obtain ⟨e, hkb⟩ : ∃ e, ti.kind = .slice e := by cases hkk : ti.kind <;> rw [hkk] at hk <;> first | exact ⟨_, rfl⟩ | cases hk
        have hu := kind_slice (htt _ _ ht) hkb
        unfold nilSlice at hb
        refine eq_case h fun ρ T w xv yv hx hy => ?_
        cases hy
        split at hb
        · cases hx; cases hb
          exact ⟨guard_plain _ _ _ _ _ _ _ rfl, eqS0 w 9999 t hu, by simp [Go.binOp], by simp [Go.binOp]⟩
        · obtain ⟨a, c, rfl⟩ := hx
          cases hb
          exact ⟨guard_plain _ _ _ _ _ _ _ rfl, eqS1 w 9999 t _ _ _ hu, by simp [Go.binOp], by simp [Go.binOp]⟩
        · obtain ⟨⟨b, _, rfl⟩, _⟩ := hx
          cases hb
          exact ⟨guard_plain _ _ _ _ _ _ _ rfl, eqS1 w 9999 t _ _ _ hu, by simp [Go.binOp], by simp [Go.binOp]⟩
        · obtain ⟨b, c, _, rfl, _⟩ := hx
          cases hb
          exact ⟨guard_plain _ _ _ _ _ _ _ rfl, eqS1 w 9999 t _ _ _ hu, by simp [Go.binOp], by simp [Go.binOp]⟩
        · cases hb
    · exact h.elim
  · exact h.elim

end Go.Se

/- Part 5: the operations that only compute, as operations. -/
namespace Go.Se
variable {P : Program}

theorem sel_ok {ρ : Names} {T : Nat → Prop} {w : World} {x y : SV} {xv yv : Value} (b : Bool) (hx : b = true → rel ρ T w x xv) (hy : b = false → rel ρ T w y yv) :
    rel ρ T w (sel b x y) (if b then xv else yv) := by
  unfold sel
  split
  · split
    · rename_i hjk
      obtain rfl := of_decide_eq_true hjk
      cases b
      · exact hy rfl
      · exact hx rfl
    · cases b
      · exact hy rfl
      · exact hx rfl
  · cases b
    · exact hy rfl
    · exact hx rfl
  · cases b
    · exact hy rfl
    · exact hx rfl

section
variable {st : St} {o : Oper} {K : KV} {tt : TypeId → Option TI} (htt : ∀ t ti, tt t = some ti → TIok P t ti)

theorem good_move {x : Operand} (ho : o.op = .move x) (h : K (eval st.tmps x) [] st.nxt [] []) : Good P st o K :=
  Good.pure h (OpOK.pure fun ρ T a w hx => ⟨a.eval x, by simp [execOp, ho], hx x (by simp [ho, Op.operands])⟩)

theorem good_assign {x : Operand} (ho : o.op = .assign x) (h : K (eval st.tmps x) [] st.nxt [] []) : Good P st o K :=
  Good.pure h (OpOK.pure fun ρ T a w hx => ⟨a.eval x, by simp [execOp, ho], hx x (by simp [ho, Op.operands])⟩)

theorem good_pick {c x y : Operand} {b : Bool} (ho : o.op = .pick c x y) (hc : eval st.tmps c = .bool b) (h : K (sel b (eval st.tmps x) (eval st.tmps y)) [] st.nxt [] []) : Good P st o K :=
  Good.pure h (OpOK.pure fun ρ T a w hx => by
    have h1 := hx c (by simp [ho, Op.operands])
    rw [hc] at h1
    refine ⟨if b then a.eval x else a.eval y, ?_, sel_ok b (fun _ => hx x (by simp [ho, Op.operands])) (fun _ => hx y (by simp [ho, Op.operands]))⟩
    have h2 : a.eval c = .bool b := h1
    simp [execOp, ho, h2, asBool])

theorem relL_map {ρ : Names} {T : Nat → Prop} {w : World} {l : Tmps} {a : Act} : ∀ (xs : List Operand), (∀ x, x ∈ xs → rel ρ T w (eval l x) (a.eval x)) →
    relL ρ T w (xs.map (eval l)) (xs.map a.eval)
  | [], _ => rfl
  | x :: xs, h => ⟨_, _, rfl, h x (by simp), relL_map xs fun y hy => h y (by simp [hy])⟩

theorem good_makeFunc {f : Fn} {x y : Array Operand} (ho : o.op = .makeFunc f x y)
    (h : K (.fn f (x.toList.map (eval st.tmps)) (y.toList.map (eval st.tmps))) [] st.nxt [] []) : Good P st o K :=
  Good.pure h (OpOK.pure fun ρ T a w hx => by
    refine ⟨.func f (x.map a.eval) (y.map a.eval), by simp [execOp, ho, Instr.makeFunc], _, _, rfl, ?_, ?_⟩
    · rw [Array.toList_map]; exact relL_map _ fun z hz => hx z (by simp [ho, Op.operands]; exact .inl (by simpa using hz))
    · rw [Array.toList_map]; exact relL_map _ fun z hz => hx z (by simp [ho, Op.operands]; exact .inr (by simpa using hz)))

theorem relL_get {ρ : Names} {T : Nat → Prop} {w : World} : ∀ {l : List SV} {m : List Value} (i : Nat) {v : SV}, relL ρ T w l m → l[i]? = some v → ∃ x, m[i]? = some x ∧ rel ρ T w v x
  | [], _, _, _, _, h => by simp at h
  | a :: l, m, 0, v, ⟨x, r, h1, h2, h3⟩, h => by
    simp only [List.getElem?_cons_zero, Option.some.injEq] at h
    subst h; rw [h1]; exact ⟨x, by simp, h2⟩
  | a :: l, m, i + 1, v, ⟨x, r, h1, h2, h3⟩, h => by
    rw [h1]; simpa using relL_get i h3 (by simpa using h)

theorem good_extract {x : Operand} {i : Nat} {vs : List SV} {v : SV} (ho : o.op = .extract x i) (hx : eval st.tmps x = .tup vs) (hv : vs[i]? = some v) (h : K v [] st.nxt [] []) : Good P st o K :=
  Good.pure h (OpOK.pure fun ρ T a w hr => by
    have h1 := hr x (by simp [ho, Op.operands])
    rw [hx] at h1
    obtain ⟨c, h2, h3⟩ := h1
    obtain ⟨y, h4, h5⟩ := relL_get i h3 hv
    refine ⟨y, ?_, h5⟩
    have h6 : c[i]? = some y := by simpa using h4
    simp [execOp, ho, h2, Instr.extract, h6])

theorem good_nilCheck {x : Operand} (ho : o.op = .nilCheck x) (hp : (match eval st.tmps x with | .ptr _ _ => true | .eptr _ _ _ _ => true | .rptr _ => true | _ => false) = true)
    (h : K (eval st.tmps x) [] st.nxt [] []) : Good P st o K :=
  Good.pure h (OpOK.pure fun ρ T a w hr => by
    have h1 := hr x (by simp [ho, Op.operands])
    refine ⟨a.eval x, ?_, h1⟩
    cases he : eval st.tmps x <;> rw [he] at hp h1 <;> simp only [Bool.false_eq_true] at hp
    · obtain ⟨b, _, h2⟩ := h1
      simp [execOp, ho, h2]
    · obtain ⟨b, _, h2⟩ := h1
      simp [execOp, ho, h2]
    · obtain ⟨b, o, h2, _⟩ := h1
      simp [execOp, ho, h2])

theorem good_makeInterface {t : TypeId} {x : Operand} {ti : TI} (ho : o.op = .makeInterface t x) (ht : TIok P t ti) (hi : isIfaceK ti.kind = false)
    (h : K (.iface t (eval st.tmps x)) [] st.nxt [] []) : Good P st o K :=
  Good.pure h (OpOK.pure fun ρ T a w hr => by
    obtain ⟨d, hd, hd2, hk⟩ := ht.underlying (w := w)
    refine ⟨.iface t (a.eval x), ?_, _, rfl, hr x (by simp [ho, Op.operands])⟩
    simp only [execOp, ho, Instr.makeInterface, Sem.run_bind, hd, Result.andThen_ok]
    cases d <;> first
      | rfl
      | (simp only [kindOf, Option.some.injEq] at hk; rw [← hk] at hi; cases hi))

theorem good_unOp {op : UnOp} {t : TypeId} {x : Operand} (ho : o.op = .unOp op t x) (h : unOpE op (eval st.tmps x) fun v => K v [] st.nxt [] []) : Good P st o K := by
  unfold unOpE at h
  split at h
  · rename_i k n he
    refine Good.pure h (OpOK.pure fun ρ T a w hr => ?_)
    have h1 := hr x (by simp [ho, Op.operands])
    rw [he] at h1
    exact ⟨.int k (k.wrap (0 - n)), by simp [execOp, ho, h1.1, Op.unary, Op.intArith], rfl, wrap_in _ _⟩
  · rename_i k n he
    refine Good.pure h (OpOK.pure fun ρ T a w hr => ?_)
    have h1 := hr x (by simp [ho, Op.operands])
    rw [he] at h1
    refine ⟨.int k (k.wrap (BitVec.ofInt k.bits (if k.signed then -1 else k.max) ^^^ BitVec.ofInt k.bits n).toNat), ?_, rfl, wrap_in _ _⟩
    simp only [execOp, ho, h1.1]
    rfl
  · rename_i b he
    refine Good.pure h (OpOK.pure fun ρ T a w hr => ?_)
    have h1 := hr x (by simp [ho, Op.operands])
    rw [he] at h1
    have h2 : a.eval x = .bool b := h1
    exact ⟨.bool !b, by simp [execOp, ho, h2, Op.unary], rfl⟩
  · exact h.elim

include htt
theorem good_binOp {op : BinOp} {t ty : TypeId} {x y : Operand} (ho : o.op = .binOp op t x y ty)
    (h : binOpE tt op t (isConst x || isConst y) (eval st.tmps x) (eval st.tmps y) fun v => K v [] st.nxt [] []) : Good P st o K := by
  obtain ⟨v, hv, hr⟩ := binOpE_ok htt h (xo := x) (yo := y) (by simp)
  refine Good.pure hv (OpOK.pure fun ρ T a w hx => ?_)
  obtain ⟨r, h1, h2, h3⟩ := hr ρ T w _ _ (hx x (by simp [ho, Op.operands])) (hx y (by simp [ho, Op.operands]))
  exact ⟨r, by simp [execOp, ho, h1, h2], h3⟩

theorem good_convert {src dst : TypeId} {x : Operand} (ho : o.op = .convert src dst x)
    (h : convertE tt src dst (eval st.tmps x) fun v => K v [] st.nxt [] []) : Good P st o K := by
  unfold convertE at h
  split at h
  · rename_i ts ti hs hd
    split at h
    · rename_i k j n hk he
      refine Good.pure h (OpOK.pure fun ρ T a w hr => ?_)
      have h1 := hr x (by simp [ho, Op.operands])
      rw [he] at h1
      obtain ⟨d, hd1, _⟩ := (htt _ _ hs).underlying (w := w)
      have hu : ∀ w, (Go.underlying dst).run P w = .ok (.int k) w := fun w => by simp [Go.underlying, kind_int (htt _ _ hd) hk]
      refine ⟨.int k (k.wrap n), ?_, rfl, wrap_in _ _⟩
      simp only [execOp, ho, h1.1, Go.convert, Sem.run_bind, hd1, Result.andThen_ok, hu]
      rfl
    · exact h.elim
  · exact h.elim

omit htt in
theorem relAt_drop {T : Nat → Prop} {w : World} : ∀ (k : Nat) {cs : List SV} {b o : Nat}, relAt T w cs b o → relAt T w (cs.drop k) b (o + k)
  | 0, _, _, _, h => h
  | k + 1, [], _, _, _ => by simp [relAt]
  | k + 1, c :: cs, b, o, h => by
    have := relAt_drop k h.2
    rw [show o + 1 + k = o + (k + 1) by omega] at this
    exact this

theorem fieldPlace_ok {t : TypeId} {ti : TI} {fs : List (Nat × TypeId)} {f off size : Nat} (ht : TIok P t ti) (hk : ti.kind = .struct fs) (h : fieldPlace tt fs f = some (off, size)) :
    ∃ gs : Array Field, P.underlying t = some (.struct gs) ∧ ∃ g, gs[f]? = some g ∧ g.offset = off ∧ ∃ tf, TIok P g.type tf ∧ tf.size = size ∧ tt g.type = some tf := by
  obtain ⟨gs, hgs, rfl, _⟩ := kind_struct ht hk
  unfold fieldPlace at h
  rw [List.getElem?_map] at h
  cases hg : gs.toList[f]? with
  | none => rw [hg] at h; cases h
  | some g =>
    rw [hg] at h
    simp only [Option.map_some] at h
    split at h
    · rename_i u hu
      cases h
      exact ⟨gs, hgs, g, by simpa using hg, rfl, u, htt _ _ hu, rfl, hu⟩
    · cases h

theorem good_fieldAddr {env : Env} (he : env.tt = tt) {s : TypeId} {x : Operand} {f : Nat} (ho : o.op = .fieldAddr s x f)
    (h : fieldAddrE env s (eval st.tmps x) f fun v => K v [] st.nxt [] []) : Good P st o K := by
  unfold fieldAddrE at h
  rw [he] at h
  split at h
  · exact h.elim
  · rename_i ti ht
    split at h
    · rename_i fs hk
      split at h
      · rename_i off size hf
        obtain ⟨gs, hgs, g, hg, rfl, tf, htf, rfl, _⟩ := fieldPlace_ok htt (htt _ _ ht) hk hf
        have hu : ∀ w, (Go.underlying s).run P w = .ok (.struct gs) w := fun w => by simp [Go.underlying, hgs]
        split at h
        · exact h.elim
        · rename_i n hn
          have hpl : ∀ (b o : Nat) w, (Go.fieldPlace ⟨b, o, none⟩ g).run P w = .ok ⟨b, o + g.offset, none⟩ w := fun b o w => by
            have hs : (sizeOf g.type).run P w = .ok (n + 1) w := by rw [htf.sizeOf, hn]
            simp only [Go.fieldPlace, Sem.run_bind, hs, Result.andThen_ok, Nat.add_one_ne_zero, if_false, add_off, Sem.run_pure]
          split at h
          · rename_i id o' hx
            refine Good.pure h (OpOK.pure fun ρ T a w hr => ?_)
            have h1 := hr x (by simp [ho, Op.operands])
            rw [hx] at h1
            obtain ⟨b, h2, h3⟩ := h1
            refine ⟨.pointer (some ⟨b, o' + g.offset, none⟩), ?_, b, h2, rfl⟩
            simp [execOp, ho, h3, Instr.fieldAt, hu, hg, Instr.sureAddr, hpl]
          · rename_i id i' sz o' hx
            refine Good.pure h (OpOK.pure fun ρ T a w hr => ?_)
            have h1 := hr x (by simp [ho, Op.operands])
            rw [hx] at h1
            obtain ⟨b, h2, h3⟩ := h1
            refine ⟨.pointer (some ⟨b, i' * sz + o' + g.offset, none⟩), ?_, b, h2, by rw [Nat.add_assoc]⟩
            simp [execOp, ho, h3, Instr.fieldAt, hu, hg, Instr.sureAddr, hpl]
          · rename_i cs hx
            refine Good.pure h (OpOK.pure fun ρ T a w hr => ?_)
            have h1 := hr x (by simp [ho, Op.operands])
            rw [hx] at h1
            obtain ⟨b, off, h2, h3, h4, h5⟩ := h1
            refine ⟨.pointer (some ⟨b, off + g.offset, none⟩), ?_, b, _, rfl, h3, h4, relAt_drop _ h5⟩
            simp [execOp, ho, h2, Instr.fieldAt, hu, hg, Instr.sureAddr, hpl]
          · exact h.elim
      · exact h.elim
    · exact h.elim

theorem good_indexAddr {env : Env} (he : env.tt = tt) {t : TypeId} {x i : Operand} (ho : o.op = .indexAddr t x i)
    (h : indexAddrE env t (eval st.tmps x) (eval st.tmps i) fun v => K v [] st.nxt [] []) : Good P st o K := by
  unfold indexAddrE at h
  rw [he] at h
  split at h
  · rename_i ti j n ht hi
    split at h
    · rename_i len e hk
      split at h
      · rename_i te hte
        split at h
        · rename_i id off hx
          obtain ⟨hb, h⟩ := If.elim h
          simp only [Bool.and_eq_true, decide_eq_true_eq] at hb
          refine Good.pure h (OpOK.pure fun ρ T a w hr => ?_)
          have h1 := hr x (by simp [ho, Op.operands])
          have h2 := hr i (by simp [ho, Op.operands])
          rw [hx] at h1; rw [hi] at h2
          obtain ⟨b, h3, h4⟩ := h1
          have hu : ∀ w, (Go.underlying t).run P w = .ok (.array len e) w := fun w => by simp [Go.underlying, kind_array (htt _ _ ht) hk]
          refine ⟨.pointer (some ⟨b, off + n.toNat * te.size, none⟩), ?_, b, h3, rfl⟩
          simp [execOp, ho, h4, h2.1, Instr.indexAt, asIntOf, hu, Instr.sureAddr, hb, (htt _ _ hte).sizeOf, add_off]
        · exact h.elim
      · exact h.elim
    · rename_i e hk
      split at h
      · rename_i te hte
        have hu : ∀ w, (Go.underlying t).run P w = .ok (.slice e) w := fun w => by simp [Go.underlying, kind_slice (htt _ _ ht) hk]
        split at h
        · rename_i len s g hx
          split at h
          · rename_i hs
            obtain ⟨hb, h⟩ := If.elim h
            simp only [Bool.and_eq_true, decide_eq_true_eq] at hb
            have hs' := Nat.eq_of_beq_eq_true hs
            refine Good.pure h (OpOK.pure fun ρ T a w hr => ?_)
            have h1 := hr x (by simp [ho, Op.operands])
            have h2 := hr i (by simp [ho, Op.operands])
            rw [hx] at h1; rw [hi] at h2
            obtain ⟨ad, c, h3, h4, h5⟩ := h1
            obtain ⟨b, off, rfl, h6, h7, h8⟩ := h5 (by omega)
            refine ⟨.pointer (some ⟨b, off + n.toNat * te.size, none⟩), ?_, b, _, rfl, h6, h7, ?_⟩
            · simp [execOp, ho, h3, h2.1, Instr.indexAt, asIntOf, hu, hb, (htt _ _ hte).sizeOf, add_off]
            · have := h8 n.toNat (by omega)
              rw [hs'] at this
              exact this
          · exact h.elim
        · rename_i id off len c hx
          obtain ⟨hb, h⟩ := If.elim h
          simp only [Bool.and_eq_true, decide_eq_true_eq] at hb
          refine Good.pure h (OpOK.pure fun ρ T a w hr => ?_)
          have h1 := hr x (by simp [ho, Op.operands])
          have h2 := hr i (by simp [ho, Op.operands])
          rw [hx] at h1; rw [hi] at h2
          obtain ⟨⟨b, h3, h4⟩, _⟩ := h1
          refine ⟨.pointer (some ⟨b, off + n.toNat * te.size, none⟩), ?_, b, h3, rfl⟩
          simp [execOp, ho, h4, h2.1, Instr.indexAt, asIntOf, hu, hb, (htt _ _ hte).sizeOf, add_off]
        · rename_i id off sz len hx
          cases hs : Nat.beq sz te.size with
          | false => rw [hs] at h; exact h.elim
          | true =>
          rw [hs] at h
          obtain ⟨hb, h⟩ := If.elim (show If _ _ from h)
          simp only [Bool.and_eq_true, decide_eq_true_eq] at hb
          have hs' := Nat.eq_of_beq_eq_true hs
          refine Good.pure h (OpOK.pure fun ρ T a w hr => ?_)
          have h1 := hr x (by simp [ho, Op.operands])
          have h2 := hr i (by simp [ho, Op.operands])
          rw [hx] at h1; rw [hi] at h2
          obtain ⟨b, c, h3, h4, _⟩ := h1
          refine ⟨.pointer (some ⟨b, off * sz + n.toNat * te.size, none⟩), ?_, b, h3, by rw [Nat.add_mul, Nat.add_zero, hs']⟩
          simp [execOp, ho, h4, h2.1, Instr.indexAt, asIntOf, hu, hb, (htt _ _ hte).sizeOf, add_off]
        · exact h.elim
      · exact h.elim
    · exact h.elim
  · exact h.elim

omit htt in
theorem relV_ofCells {ti : TI} {ρ : Names} {T : Nat → Prop} {w : World} {cs : List SV} {x : Value} {v : SV} (h : ofCells ti cs = some v) (hr : relV ti ρ T w cs x) : rel ρ T w v x := by
  unfold ofCells at h
  rcases hr with ⟨hk, a, rfl, ha⟩ | ⟨hk, u, rfl, hu⟩
  · rw [hk] at h
    simp only [cond_true] at h
    cases hb : Nat.beq cs.length ti.size <;> rw [hb] at h <;> cases h
    exact ⟨a, rfl, ha⟩
  · rw [hk] at h
    cases h
    exact hu

omit htt in
theorem ofCells_shape {ti : TI} {cs : List SV} {v : SV} (h : ofCells ti cs = some v) : isAgg ti.kind = true ∨ ∃ u, cs = [u] := by
  unfold ofCells at h
  cases hk : isAgg ti.kind with
  | true => exact .inl rfl
  | false =>
    rw [hk] at h
    simp only [cond_false] at h
    split at h
    · exact .inr ⟨_, rfl⟩
    · cases h

theorem good_field {env : Env} (he : env.tt = tt) {t : TypeId} {x : Operand} {f : Nat} (ho : o.op = .field t x f)
    (h : fieldE env t (eval st.tmps x) f fun v => K v [] st.nxt [] []) : Good P st o K := by
  unfold fieldE at h
  rw [he] at h
  split at h
  · rename_i ti cs ht hx
    split at h
    · rename_i fs hk
      split at h
      · rename_i off u hf
        split at h
        · rename_i tu htu
          split at h
          · rename_i v hv
            obtain ⟨gs, hgs, rfl, _⟩ := kind_struct (htt _ _ ht) hk
            rw [List.getElem?_map] at hf
            cases hg : gs.toList[f]? with
            | none => rw [hg] at hf; cases hf
            | some g =>
              rw [hg] at hf
              cases hf
              refine Good.pure h (OpOK.pure fun ρ T a w hr => ?_)
              have h1 := hr x (by simp [ho, Op.operands])
              rw [hx] at h1
              obtain ⟨c, h2, h3⟩ := h1
              obtain ⟨y, h4, h5⟩ := part_ok (w := w) (htt _ _ htu) h3 g.offset (ofCells_shape hv)
              have hu : ∀ w, (Go.underlying t).run P w = .ok (.struct gs) w := fun w => by simp [Go.underlying, hgs]
              have hg' : gs[f]? = some g := by simpa using hg
              refine ⟨y, ?_, relV_ofCells hv h5⟩
              simp [execOp, ho, h2, Instr.field, hu, hg', asAgg, h4]
          · exact h.elim
        · exact h.elim
      · exact h.elim
    · exact h.elim
  · exact h.elim

theorem good_index {env : Env} (he : env.tt = tt) {t : TypeId} {x i : Operand} (ho : o.op = .index t x i)
    (h : indexE env t (eval st.tmps x) (eval st.tmps i) fun v => K v [] st.nxt [] []) : Good P st o K := by
  unfold indexE at h
  rw [he] at h
  split at h
  · rename_i ti j n ht hi
    split at h
    · rename_i len e cs hk hx
      split at h
      · rename_i te hte
        obtain ⟨hb, h⟩ := If.elim h
        simp only [Bool.and_eq_true, decide_eq_true_eq] at hb
        split at h
        · rename_i v hv
          refine Good.pure h (OpOK.pure fun ρ T a w hr => ?_)
          have h1 := hr x (by simp [ho, Op.operands])
          have h2 := hr i (by simp [ho, Op.operands])
          rw [hx] at h1; rw [hi] at h2
          obtain ⟨c, h3, h4⟩ := h1
          obtain ⟨y, h5, h6⟩ := part_ok (w := w) (htt _ _ hte) h4 (n.toNat * te.size) (ofCells_shape hv)
          have hu : ∀ w, (Go.underlying t).run P w = .ok (.array len e) w := fun w => by simp [Go.underlying, kind_array (htt _ _ ht) hk]
          refine ⟨y, ?_, relV_ofCells hv h6⟩
          simp [execOp, ho, h3, h2.1, Instr.index, asIntOf, hu, hb, (htt _ _ hte).sizeOf, h5]
        · exact h.elim
      · exact h.elim
    · rename_i s hk hx
      obtain ⟨hb, h⟩ := If.elim h
      simp only [Bool.and_eq_true, decide_eq_true_eq] at hb
      refine Good.pure h (OpOK.pure fun ρ T a w hr => ?_)
      have h1 := hr x (by simp [ho, Op.operands])
      have h2 := hr i (by simp [ho, Op.operands])
      rw [hx] at h1; rw [hi] at h2
      have hu : ∀ w, (Go.underlying t).run P w = .ok .string w := fun w => by simp [Go.underlying, kind_string (htt _ _ ht) hk]
      have hlt : n.toNat < s.size := by omega
      refine ⟨.int .u8 (s.data.getD n.toNat 0).toNat, ?_, rfl, ?_⟩
      · have hs : s[n.toNat]? = some (s.data.getD n.toNat 0) := by
          rw [getElem?_pos s n.toNat hlt]
          have : n.toNat < s.data.size := hlt
          simp only [Array.getD_eq_getD_getElem?, Array.getElem?_eq_getElem this, Option.getD_some]
          rfl
        simp [execOp, ho, h1.1, h2.1, Instr.index, asIntOf, hu, hb]
        rfl
      · have := (s.data.getD n.toNat 0).toNat_lt
        show (0 : Int) ≤ _ ∧ _ ≤ (255 : Int)
        omega
    · exact h.elim
  · exact h.elim

end
end Go.Se

/- Part 6: operations on memory. -/
namespace Go.Se
variable {P : Program}

/-- A name more. -/
def named (ρ : Names) (n b : Nat) : Names := fun i => if i = n then some b else ρ i

theorem alloc_at (w : World) (o : Obj) : (w.alloc o).heap[w.heap.size]? = some o := by show (w.heap.push o)[w.heap.size]? = some o; simp

theorem alloc_other {w : World} {o : Obj} {b : Nat} (h : b < w.heap.size) : (w.alloc o).heap[b]? = w.heap[b]? := by
  show (w.heap.push o)[b]? = w.heap[b]?
  rw [Array.getElem?_push_lt h, Array.getElem?_eq_getElem h]

theorem Grow.alloc (T : Nat → Prop) (w : World) (o : Obj) : Grow T w (w.alloc o) where
  size := by rw [World.size_alloc]; omega
  same b hb _ := alloc_other hb
  shape b vs e f h := ⟨vs, f, by rw [alloc_other (Array.getElem?_eq_some_iff.1 h).1]; exact h, rfl⟩
  os := rfl
  output := rfl
  tape := rfl

/-- A new block. -/
theorem Done.new {ρ : Names} {T : Nat → Prop} {w : World} {n : Nat} {cs : List SV} {vs : Array Value} {e : TypeId} {v : SV} {x : Value}
    (_hρ : ∀ id b, ρ id = some b → b < w.heap.size) (hn : ρ n = none) (hc : relL ρ T w cs vs.toList)
    (hv : rel (named ρ n w.heap.size) (fun b => T b ∨ b = w.heap.size) (w.alloc (.cells vs e)) v x) :
    Done ρ T w n (n + 1) v [(n, some (.cells e cs))] [] (named ρ n w.heap.size) (fun b => T b ∨ b = w.heap.size) (w.alloc (.cells vs e)) x where
  names id b h := by
    unfold named
    rw [if_neg (by rintro rfl; rw [hn] at h; cases h)]; exact h
  only id b h := by
    unfold named at h
    split at h
    · right; omega
    · exact .inl h
  val := hv
  turned id sb h := by
    simp only [List.mem_singleton, Prod.mk.injEq, Option.some.injEq] at h
    obtain ⟨rfl, rfl⟩ := h
    refine ⟨w.heap.size, by simp [named], .inr rfl, vs, alloc_at _ _, ?_⟩
    refine relL_mono ?_ ?_ (Grow.alloc T w _) _ _ hc
    · intro i b h
      unfold named
      rw [if_neg (by rintro rfl; rw [hn] at h; cases h)]; exact h
    · intro b hb h
      rcases h with h | h
      · exact h
      · omega
  keys id o h := by
    simp only [List.mem_singleton, Prod.mk.injEq] at h
    right; omega
  cover _ h := by cases h
  fresh id b h1 h2 h := by
    left
    obtain rfl : id = n := by omega
    simp [named] at h
    omega
  inj i j b h1 h2 h3 h4 _ _ := by omega
  grow := Grow.alloc _ w _
  tback b hb h := by
    rcases h with h | h
    · exact h
    · omega
  below id b h1 h2 h := by
    obtain rfl : id = n := by omega
    simp [named] at h
    rw [World.size_alloc]; omega
  tkeep b _ h := .inl (.inl h)

section
variable {st : St} {o : Oper} {K : KV} {env : Env} (htt : ∀ t ti, env.tt t = some ti → TIok P t ti)
include htt

theorem good_alloc {t : TypeId} {ti : TI} (ho : o.op = .alloc t) (ht : env.tt t = some ti)
    (h : K (.ptr st.nxt 0) [(st.nxt, some (.cells t ti.zero))] (st.nxt + 1) [] []) : Good P st o K := by
  refine ⟨_, _, _, _, _, h, Nat.le_succ _, by simp, Once.one, by simp, fun ρ T a w next Q hx _ _ hρ hn hnext => ?_⟩
  obtain ⟨z, hz, hzc⟩ := (htt _ _ ht).zero (w := w)
  have hrun : (execOp a.eval o).run P w = .ok (.value (.pointer (some ⟨w.heap.size, 0, none⟩))) (w.alloc (.cells z.cells t)) := by
    simp [execOp, ho, Instr.alloc, hz, newVar, newRow]
  refine wp_value hrun (hnext _ _ _ _ (Done.new hρ (hn _ (Nat.le_refl _) (Nat.lt_succ_self _)) (zeroCells_rel ρ T w _ _ hzc) ?_))
  exact ⟨_, by simp [named], rfl⟩

omit htt in
theorem cellsOf_rel {ρ : Names} {T : Nat → Prop} {w : World} {v : SV} {x : Value} (h : rel ρ T w v x) (hv : v ≠ .junk) : relL ρ T w (cellsOf v) x.cells.toList := by
  have one : ∀ u : SV, rel ρ T w u x → x.cells = #[x] → relL ρ T w [u] x.cells.toList := fun u hu hx => by rw [hx]; exact ⟨x, [], rfl, hu, rfl⟩
  cases v with
  | junk => exact absurd rfl hv
  | agg cs => obtain ⟨a, rfl, ha⟩ := h; exact ha
  | int k n => exact one _ h (by rw [h.1]; rfl)
  | bool b => exact one _ h (by have h' : x = .bool b := h; rw [h']; rfl)
  | str s => exact one _ h (by rw [h.1]; rfl)
  | nilp => exact one _ h (by have h' : x = .pointer none := h; rw [h']; rfl)
  | ptr id off => exact one _ h (by obtain ⟨b, _, rfl⟩ := h; rfl)
  | eptr id i st o => exact one _ h (by obtain ⟨b, _, rfl⟩ := h; rfl)
  | rptr cs => exact one _ h (by obtain ⟨b, o, rfl, _⟩ := h; rfl)
  | fn f a b => exact one _ h (by obtain ⟨c, d, rfl, _⟩ := h; rfl)
  | nilfn => exact one _ h (by have h' : x = .nilFunc := h; rw [h']; rfl)
  | tup vs => exact one _ h (by obtain ⟨a, rfl, _⟩ := h; rfl)
  | nils => exact one _ h (by have h' : x = .slice none 0 0 := h; rw [h']; rfl)
  | emp => exact one _ h (by obtain ⟨b, c, rfl⟩ := h; rfl)
  | arr a b c d => exact one _ h (by obtain ⟨⟨b, _, rfl⟩, _⟩ := h; rfl)
  | own a o b c => exact one _ h (by obtain ⟨b, c, _, rfl, _⟩ := h; rfl)
  | ro a b c => exact one _ h (by obtain ⟨b, c, rfl, _⟩ := h; rfl)
  | nilI => exact one _ h (by have h' : x = .nilIface := h; rw [h']; rfl)
  | iface t v => exact one _ h (by obtain ⟨y, rfl, _⟩ := h; rfl)
  | yld id => exact one _ h (by obtain ⟨b, _, rfl⟩ := h; rfl)

omit htt in
theorem oneCell_ok {ρ : Names} {T : Nat → Prop} {w : World} {v : SV} {x : Value} (h : rel ρ T w v x) (hv : oneCell v = true) : x.oneCell' = true := by
  cases v with
  | junk => cases hv
  | agg cs => cases hv
  | tup cs => cases hv
  | int k n => rw [h.1]; rfl
  | bool b => have h' : x = .bool b := h; rw [h']; rfl
  | str s => rw [h.1]; rfl
  | nilp => have h' : x = .pointer none := h; rw [h']; rfl
  | ptr id off => obtain ⟨b, _, rfl⟩ := h; rfl
  | eptr id i st o => obtain ⟨b, _, rfl⟩ := h; rfl
  | rptr cs => obtain ⟨b, o, rfl, _⟩ := h; rfl
  | fn f a b => obtain ⟨c, d, rfl, _⟩ := h; rfl
  | nilfn => have h' : x = .nilFunc := h; rw [h']; rfl
  | nils => have h' : x = .slice none 0 0 := h; rw [h']; rfl
  | emp => obtain ⟨b, c, rfl⟩ := h; rfl
  | arr a b c d => obtain ⟨⟨b, _, rfl⟩, _⟩ := h; rfl
  | own a o b c => obtain ⟨b, c, _, rfl, _⟩ := h; rfl
  | ro a b c => obtain ⟨b, c, rfl, _⟩ := h; rfl
  | nilI => have h' : x = .nilIface := h; rw [h']; rfl
  | iface t v => obtain ⟨y, rfl, _⟩ := h; rfl
  | yld id => obtain ⟨b, _, rfl⟩ := h; rfl

omit htt in
theorem oneCells_ok {ρ : Names} {T : Nat → Prop} {w : World} : ∀ {l : List SV} {m : List Value}, relL ρ T w l m → l.all oneCell = true → ∀ x ∈ m, x.oneCell' = true
  | [], m, h, _, x, hx => by rw [h] at hx; cases hx
  | a :: l, m, ⟨v, r, h1, h2, h3⟩, ha, x, hx => by
    simp only [List.all_cons, Bool.and_eq_true] at ha
    rw [h1] at hx
    rcases List.mem_cons.1 hx with rfl | hx
    · exact oneCell_ok h2 ha.1
    · exact oneCells_ok h3 ha.2 x hx

omit htt in
theorem good_box {t : TypeId} {x : Operand} (ho : o.op = .box t x) (hx : eval st.tmps x ≠ .junk)
    (h : K (.ptr st.nxt 0) [(st.nxt, some (.cells t (cellsOf (eval st.tmps x))))] (st.nxt + 1) [] []) : Good P st o K := by
  refine ⟨_, _, _, _, _, h, Nat.le_succ _, by simp, Once.one, by simp, fun ρ T a w next Q hr _ _ hρ hn hnext => ?_⟩
  have hrun : (execOp a.eval o).run P w = .ok (.value (.pointer (some ⟨w.heap.size, 0, none⟩))) (w.alloc (.cells (a.eval x).cells t)) := by
    simp [execOp, ho, Instr.box, newVar, newRow]
  refine wp_value hrun (hnext _ _ _ _ (Done.new hρ (hn _ (Nat.le_refl _) (Nat.lt_succ_self _)) (cellsOf_rel (hr x (by simp [ho, Op.operands])) hx) ?_))
  exact ⟨_, by simp [named], rfl⟩

omit htt in
theorem cut_len {cs : List SV} {off n : Nat} (h : (cut cs off n).length = n) (hn : 0 < n) : off + n ≤ cs.length := by
  unfold cut at h
  rw [List.length_take, List.length_drop] at h
  omega

omit htt in
theorem run_loadVar {w : World} {b off : Nat} {vs : Array Value} {e : TypeId} {f : Nat × Nat} {t : TypeId} {ti : TI} (ht : TIok P t ti) (hb : w.heap[b]? = some (.cells vs e f))
    {ρ : Names} {T : Nat → Prop} {cs : List SV} (hc : relL ρ T w cs vs.toList) {v : SV} (hv : ofCells ti (cut cs off ti.size) = some v) :
    ∃ x, (loadVar t ⟨b, off, none⟩).run P w = .ok x w ∧ rel ρ T w v x := by
  have hr := relL_cut off ti.size hc
  unfold loadVar
  rw [Sem.run_bind, ht.isAgg]
  unfold ofCells at hv
  cases hk : isAgg ti.kind with
  | true =>
    rw [hk] at hv
    simp only [cond_true] at hv
    cases hl : Nat.beq (cut cs off ti.size).length ti.size with
    | false => rw [hl] at hv; cases hv
    | true =>
      rw [hl] at hv
      cases hv
      have hl' := Nat.eq_of_beq_eq_true hl
      refine ⟨.agg ((vs.toList.drop off).take ti.size).toArray, ?_, _, rfl, by simpa using hr⟩
      simp only [Result.andThen_ok, if_true, Sem.run_bind, ht.sizeOf]
      by_cases h0 : ti.size = 0
      · rw [h0]; simp [loadCells, loadCellsFrom]
      · have := cut_len hl' (by omega)
        have hlen : cs.length = vs.size := (relL_len hc).trans (by simp)
        rw [run_loadCells hb (by omega)]
        simp
  | false =>
    rw [hk] at hv
    simp only [cond_false] at hv
    split at hv
    · rename_i c hcut
      cases hv
      rw [hcut] at hr
      obtain ⟨x, r, h2, h3, _⟩ := hr
      refine ⟨x, ?_, h3⟩
      have h5 : ((vs.toList.drop off).take ti.size)[0]? = some x := by rw [h2]; rfl
      rw [List.getElem?_take] at h5
      split at h5
      · rw [List.getElem?_drop] at h5
        have h6 : vs[off]? = some x := by simpa using h5
        simp only [Result.andThen_ok, Bool.false_eq_true, if_false, run_load, cell_of hb, h6]
      · cases h5
    · cases hv

omit htt in
theorem run_loadCellsAt {T : Nat → Prop} {w : World} {b off : Nat} : ∀ (cs : List SV) (i : Nat) (acc : Array Value), relAt T w cs b (off + i) →
    ∃ m : List Value, (loadCellsFrom ⟨b, off, none⟩ i cs.length acc).run P w = .ok (acc ++ m.toArray) w ∧ relL (fun _ => none) T w cs m
  | [], i, acc, _ => ⟨[], by simp [loadCellsFrom], rfl⟩
  | c :: cs, i, acc, ⟨⟨v, h1, h2⟩, h3⟩ => by
    obtain ⟨m, h4, h5⟩ := run_loadCellsAt cs (i + 1) (acc.push v) (by rw [show off + (i + 1) = off + i + 1 by omega]; exact h3)
    refine ⟨v :: m, ?_, v, m, rfl, h2, h5⟩
    simp only [List.length_cons, loadCellsFrom, Sem.run_bind, add_off, run_load, h1, Result.andThen_ok, h4]
    simp

omit htt in
theorem relL_closed {ρ : Names} {T : Nat → Prop} {w : World} {l : List SV} {m : List Value} (h : relL (fun _ => none) T w l m) : relL ρ T w l m :=
  relL_mono (fun _ _ h => by cases h) (fun _ _ h => h) (Grow.refl T w) _ _ h

omit htt in
theorem relAt_take {T : Nat → Prop} {w : World} : ∀ (n : Nat) {cs : List SV} {b o : Nat}, relAt T w cs b o → relAt T w (cs.take n) b o
  | 0, _, _, _, _ => by simp [relAt]
  | n + 1, [], _, _, _ => by simp [relAt]
  | n + 1, c :: cs, b, o, ⟨h1, h2⟩ => ⟨h1, relAt_take n h2⟩

omit htt in
theorem run_loadVarAt {T : Nat → Prop} {w : World} {b off : Nat} {t : TypeId} {ti : TI} (ht : TIok P t ti) {cs : List SV} (hc : relAt T w cs b off) {ρ : Names} {v : SV}
    (hv : ofCells ti (cs.take ti.size) = some v) : ∃ x, (loadVar t ⟨b, off, none⟩).run P w = .ok x w ∧ rel ρ T w v x := by
  have hr := relAt_take ti.size hc
  unfold loadVar
  rw [Sem.run_bind, ht.isAgg]
  unfold ofCells at hv
  cases hk : isAgg ti.kind with
  | true =>
    rw [hk] at hv
    simp only [cond_true] at hv
    cases hl : Nat.beq (cs.take ti.size).length ti.size with
    | false => rw [hl] at hv; cases hv
    | true =>
      rw [hl] at hv
      cases hv
      have hl' := Nat.eq_of_beq_eq_true hl
      obtain ⟨m, h1, h2⟩ := run_loadCellsAt (P := P) (cs.take ti.size) 0 #[] hr
      rw [hl'] at h1
      refine ⟨.agg m.toArray, ?_, _, rfl, relL_closed h2⟩
      simp only [Result.andThen_ok, if_true, Sem.run_bind, ht.sizeOf, loadCells, h1]
      simp
  | false =>
    rw [hk] at hv
    simp only [cond_false] at hv
    split at hv
    · rename_i c hcut
      cases hv
      rw [hcut] at hr
      obtain ⟨⟨x, h1, h2⟩, _⟩ := hr
      refine ⟨x, ?_, rel_mono (fun _ _ h => by cases h) (fun _ _ h => h) (Grow.refl T w) _ _ h2⟩
      simp only [Result.andThen_ok, Bool.false_eq_true, if_false, run_load, h1]
    · cases hv

omit htt in
theorem run_loadPart {w : World} {b off : Nat} {vs : Array Value} {e : TypeId} {f : Nat × Nat} {t : TypeId} {ti : TI} (ht : TIok P t ti) (hb : w.heap[b]? = some (.cells vs e f))
    {ρ : Names} {T : Nat → Prop} {cs : List SV} {m r : List Value} (hm : vs.toList = m ++ r) (hc : relL ρ T w cs m) (hfit : off + ti.size ≤ cs.length) (hpos : 0 < ti.size) {v : SV} (hv : ofCells ti (cut cs off ti.size) = some v) :
    ∃ x, (loadVar t ⟨b, off, none⟩).run P w = .ok x w ∧ rel ρ T w v x := by
  have hr := relL_cut off ti.size hc
  have hml := relL_len hc
  have hvl : vs.toList.length = vs.size := by simp
  have hpart : (vs.toList.drop off).take ti.size = (m.drop off).take ti.size := by
    rw [hm, List.drop_append_of_le_length (by omega), List.take_append_of_le_length (by rw [List.length_drop]; omega)]
  have hsz : off + ti.size ≤ vs.size := by
    have := congrArg List.length hm
    rw [List.length_append] at this
    omega
  unfold loadVar
  rw [Sem.run_bind, ht.isAgg]
  unfold ofCells at hv
  cases hk : isAgg ti.kind with
  | true =>
    rw [hk] at hv
    simp only [cond_true] at hv
    cases hl : Nat.beq (cut cs off ti.size).length ti.size with
    | false => rw [hl] at hv; cases hv
    | true =>
      rw [hl] at hv
      cases hv
      refine ⟨.agg ((vs.toList.drop off).take ti.size).toArray, ?_, _, rfl, by rw [hpart]; simpa using hr⟩
      simp only [Result.andThen_ok, if_true, Sem.run_bind, ht.sizeOf]
      rw [run_loadCells hb hsz]
      simp
  | false =>
    rw [hk] at hv
    simp only [cond_false] at hv
    split at hv
    · rename_i c hcut
      cases hv
      rw [hcut] at hr
      obtain ⟨x, r', h2, h3, _⟩ := hr
      refine ⟨x, ?_, h3⟩
      have h5 : ((vs.toList.drop off).take ti.size)[0]? = some x := by rw [hpart, h2]; rfl
      rw [List.getElem?_take, if_pos hpos, List.getElem?_drop] at h5
      have h6 : vs[off]? = some x := by simpa using h5
      simp only [Result.andThen_ok, Bool.false_eq_true, if_false, run_load, cell_of hb, h6]
    · cases hv

/-- The address that a shaped pointer stands for. -/
def At (id off : Nat) (v : SV) : Prop := ∀ (ρ : Names) (T : Nat → Prop) (w : World) (y : Value), rel ρ T w v y → ∃ b, ρ id = some b ∧ y = .pointer (some ⟨b, off, none⟩)

theorem good_loadC {t : TypeId} {x : Operand} (ho : o.op = .load t x) {ti : TI} (ht : env.tt t = some ti) {id off : Nat} (hx : At id off (eval st.tmps x)) {e : TypeId} {cs : List SV}
    (hl : look st.store id = some (.cells e cs)) {v : SV} (hv : ofCells ti (cut cs off ti.size) = some v) (h : K v [] st.nxt [id] []) : Good P st o K := by
  refine ⟨v, [], st.nxt, [id], [], h, Nat.le_refl _, ?_, Once.nil, by simp, fun ρ T a w next Q hr hb _ _ _ hnext => ?_⟩
  · intro i hi
    simp only [List.mem_singleton, List.not_mem_nil, or_false] at hi
    subst hi; exact ⟨_, hl⟩
  · obtain ⟨b, h2, h3⟩ := hx _ _ _ _ (hr x (by simp [ho, Op.operands]))
    obtain ⟨sb, b', h4, h5, _, h6⟩ := hb id (.inl (by simp))
    rw [hl] at h4; cases h4
    rw [h2] at h5; cases h5
    obtain ⟨vs, h7, h8⟩ := h6
    obtain ⟨y, h9, h10⟩ := run_loadVar (htt _ _ ht) h7 h8 hv
    exact wp_value (by simp [execOp, ho, h3, Instr.loadAt, Instr.sureAddr, h9]) (hnext y w ρ T (Done.pure h10))

theorem good_loadL {t : TypeId} {x : Operand} (ho : o.op = .load t x) {ti : TI} (ht : env.tt t = some ti) {id off : Nat} (hx : At id off (eval st.tmps x)) {e : TypeId} {cs : List SV}
    (hl : look st.store id = some (.lst e cs)) (hg : Nat.blt 0 ti.size = true ∧ Nat.beq (cut cs off ti.size).length ti.size = true) {v : SV} (hv : ofCells ti (cut cs off ti.size) = some v) (h : K v [] st.nxt [id] []) : Good P st o K := by
  refine ⟨v, [], st.nxt, [id], [], h, Nat.le_refl _, ?_, Once.nil, by simp, fun ρ T a w next Q hr hb _ _ _ hnext => ?_⟩
  · intro i hi
    simp only [List.mem_singleton, List.not_mem_nil, or_false] at hi
    subst hi; exact ⟨_, hl⟩
  · obtain ⟨b, h2, h3⟩ := hx _ _ _ _ (hr x (by simp [ho, Op.operands]))
    obtain ⟨sb, b', h4, h5, _, h6⟩ := hb id (.inl (by simp))
    rw [hl] at h4; cases h4
    rw [h2] at h5; cases h5
    obtain ⟨vs, h7, m, r, h8, h9⟩ := h6
    have hfit := cut_len (Nat.eq_of_beq_eq_true hg.2) (Nat.le_of_ble_eq_true hg.1)
    obtain ⟨y, h10, h11⟩ := run_loadPart (htt _ _ ht) h7 h8 h9 hfit (Nat.le_of_ble_eq_true hg.1) hv
    exact wp_value (by simp [execOp, ho, h3, Instr.loadAt, Instr.sureAddr, h10]) (hnext y w ρ T (Done.pure h11))

omit htt in
theorem relAt_cells {T : Nat → Prop} {w : World} {b : Nat} : ∀ {xs : List SV} {cs : List Value} {o : Nat}, relL (fun _ => none) T w xs cs → (∀ j c, cs[j]? = some c → w.cell? ⟨b, o + j, none⟩ = some c) → relAt T w xs b o
  | [], cs, o, _, _ => trivial
  | x :: xs, cs, o, ⟨v, r, h1, h2, h3⟩, hc => by
    subst h1
    refine ⟨⟨v, hc 0 v (by simp), h2⟩, relAt_cells h3 fun j c hj => ?_⟩
    have := hc (j + 1) c (by simpa using hj)
    rw [show o + 1 + j = o + (j + 1) by omega]; exact this

omit htt in
theorem relAt_dropN {T : Nat → Prop} {w : World} {b : Nat} : ∀ (n : Nat) {xs : List SV} {o : Nat}, relAt T w xs b o → relAt T w (xs.drop n) b (o + n)
  | 0, xs, o, h => h
  | n + 1, [], o, h => trivial
  | n + 1, x :: xs, o, ⟨_, h⟩ => by
    rw [List.drop_succ_cons, show o + (n + 1) = o + 1 + n by omega]
    exact relAt_dropN n h

theorem good_loadR {t : TypeId} {x : Operand} (ho : o.op = .load t x) {ti : TI} (ht : env.tt t = some ti) {id i sz q : Nat} (hx : At id (i * sz + q) (eval st.tmps x)) {e : TypeId} {len : Nat} {g : Nat → List SV}
    (hl : look st.store id = some (.row e sz len g)) (hi : i < len) {v : SV} (hv : ofCells ti (cut (g i) q ti.size) = some v) (h : K v [] st.nxt [id] []) : Good P st o K := by
  refine ⟨v, [], st.nxt, [id], [], h, Nat.le_refl _, ?_, Once.nil, by simp, fun ρ T a w next Q hr hb _ _ _ hnext => ?_⟩
  · intro i hi
    simp only [List.mem_singleton, List.not_mem_nil, or_false] at hi
    subst hi; exact ⟨_, hl⟩
  · obtain ⟨b, h2, h3⟩ := hx _ _ _ _ (hr x (by simp [ho, Op.operands]))
    obtain ⟨sb, b', h4, h5, _, h6⟩ := hb id (.inl (by simp))
    rw [hl] at h4; cases h4
    rw [h2] at h5; cases h5
    obtain ⟨vs, h7, h8, h9⟩ := h6
    have hat : relAt T w (g i) b (i * sz) := relAt_cells (h9 i hi) fun j c hj => by
      rw [cell_of h7]
      rw [List.getElem?_take] at hj
      split at hj
      · rw [List.getElem?_drop] at hj
        simpa using hj
      · cases hj
    obtain ⟨y, h10, h11⟩ := run_loadVarAt (ρ := ρ) (htt _ _ ht) (relAt_dropN q hat) hv
    exact wp_value (by simp [execOp, ho, h3, Instr.loadAt, Instr.sureAddr, h10]) (hnext y w ρ T (Done.pure h11))

theorem good_load {t : TypeId} {x : Operand} (ho : o.op = .load t x) (h : loadE env t (eval st.tmps x) st K) : Good P st o K := by
  unfold loadE at h
  split at h
  · exact h.elim
  · rename_i ti ht
    split at h
    · rename_i id off hx
      have hat : At id off (eval st.tmps x) := fun ρ T w y hr => by rw [hx] at hr; exact hr
      split at h
      · rename_i e cs hl
        split at h
        · rename_i v hv
          exact good_loadC htt ho ht hat hl hv h
        · exact h.elim
      · rename_i e cs hl
        cases hg : Nat.blt 0 ti.size && Nat.beq (cut cs off ti.size).length ti.size with
        | false => rw [hg] at h; exact h.elim
        | true =>
        rw [hg] at h
        simp only [Bool.and_eq_true, cond_true] at hg h
        split at h
        · rename_i v hv
          exact good_loadL htt ho ht hat hl hg hv h
        · exact h.elim
      · exact h.elim
    · rename_i id i sz q hx
      have hat : At id (i * sz + q) (eval st.tmps x) := fun ρ T w y hr => by rw [hx] at hr; exact hr
      split at h
      · rename_i e cs hl
        split at h
        · rename_i v hv
          exact good_loadC htt ho ht hat hl hv h
        · exact h.elim
      · rename_i e cs hl
        cases hg : Nat.blt 0 ti.size && Nat.beq (cut cs (i * sz + q) ti.size).length ti.size with
        | false => rw [hg] at h; exact h.elim
        | true =>
        rw [hg] at h
        simp only [Bool.and_eq_true, cond_true] at hg h
        split at h
        · rename_i v hv
          exact good_loadL htt ho ht hat hl hg hv h
        · exact h.elim
      · rename_i e sz' len g hl
        cases hg : Nat.beq sz' sz && (Nat.blt 0 ti.size && Nat.beq (cut (g i) q ti.size).length ti.size) with
        | false => rw [hg] at h; exact h.elim
        | true =>
        rw [hg] at h
        simp only [Bool.and_eq_true, cond_true] at hg h
        obtain rfl := Nat.eq_of_beq_eq_true hg.1
        obtain ⟨hi, h⟩ := If.elim h
        split at h
        · rename_i v hv
          exact good_loadR htt ho ht hat hl (of_decide_eq_true hi) hv h
        · exact h.elim
      · exact h.elim
    · rename_i cs hx
      split at h
      · rename_i v hv
        refine Good.pure h (OpOK.pure fun ρ T a w hr => ?_)
        have h1 := hr x (by simp [ho, Op.operands])
        rw [hx] at h1
        obtain ⟨b, off, h2, h3, h4, h5⟩ := h1
        obtain ⟨y, h9, h10⟩ := run_loadVarAt (ρ := ρ) (htt _ _ ht) h5 hv
        exact ⟨y, by simp [execOp, ho, h2, Instr.loadAt, Instr.sureAddr, h9], h10⟩
      · exact h.elim
    · exact h.elim

omit htt in
theorem over_ok {ρ : Names} {T : Nat → Prop} {w : World} : ∀ {cs vs cs' : List SV} {m n : List Value}, putAt.over cs vs = some cs' → relL ρ T w cs m → relL ρ T w vs n →
    vs.length ≤ cs.length ∧ relL ρ T w cs' (n ++ m.drop n.length)
  | cs, [], cs', m, n, h, hc, hv => by
    cases cs <;> (simp only [putAt.over, Option.some.injEq] at h; subst h; rw [hv]; exact ⟨by simp, by simpa using hc⟩)
  | [], v :: vs, cs', m, n, h, hc, hv => by simp [putAt.over] at h
  | c :: cs, v :: vs, cs', m, n, h, ⟨x, r, h1, h2, h3⟩, ⟨y, q, h4, h5, h6⟩ => by
    simp only [putAt.over] at h
    split at h
    · rename_i r' hr
      cases h
      obtain ⟨h7, h8⟩ := over_ok hr h3 h6
      rw [h1, h4]
      exact ⟨by simp; omega, y, _, rfl, h5, by simpa using h8⟩
    · cases h

omit htt in
theorem putAt_ok {ρ : Names} {T : Nat → Prop} {w : World} : ∀ {cs : List SV} (off : Nat) {vs cs' : List SV} {m n : List Value}, putAt cs off vs = some cs' → relL ρ T w cs m → relL ρ T w vs n →
    off + vs.length ≤ cs.length ∧ relL ρ T w cs' (overAt m off n)
  | cs, 0, vs, cs', m, n, h, hc, hv => by
    have h' : putAt.over cs vs = some cs' := by cases cs <;> exact h
    obtain ⟨h1, h2⟩ := over_ok h' hc hv
    exact ⟨by omega, by simpa [overAt] using h2⟩
  | [], off + 1, vs, cs', m, n, h, hc, hv => by simp [putAt] at h
  | c :: cs, off + 1, vs, cs', m, n, h, ⟨x, r, h1, h2, h3⟩, hv => by
    simp only [putAt] at h
    split at h
    · rename_i r' hr
      cases h
      obtain ⟨h4, h5⟩ := putAt_ok off hr h3 hv
      rw [h1]
      refine ⟨by simp; omega, x, _, ?_, h2, h5⟩
      simp only [overAt, List.take_succ_cons, List.cons_append]
      rw [show off + 1 + n.length = off + n.length + 1 by omega, List.drop_succ_cons]
    · cases h

omit htt in
theorem overAt_len {m n : List Value} {off : Nat} (h : off + n.length ≤ m.length) : (overAt m off n).length = m.length := by
  simp only [overAt, List.length_append, List.length_take, List.length_drop]; omega

omit htt in
theorem Grow.put {w : World} {b : Nat} {vs : Array Value} {e : TypeId} {vs' : Array Value} (hb : w.heap[b]? = some (.cells vs e (0, 0))) (hs : vs'.size = vs.size)
    (T : Nat → Prop) (hT : T b) : Grow T w (putBlock w b vs' e) where
  size := by rw [putBlock_size]; exact Nat.le_refl _
  same c _ hn := putBlock_other (by rintro rfl; exact hn hT)
  shape c ws f g h := by
    by_cases hc : c = b
    · subst hc
      rw [hb] at h
      cases h
      exact ⟨vs', _, putBlock_at (Array.getElem?_eq_some_iff.1 hb).1, hs⟩
    · exact ⟨ws, g, by rw [putBlock_other hc]; exact h, rfl⟩
  os := rfl
  output := rfl
  tape := rfl

theorem good_storeG {t : TypeId} {x y : Operand} (ho : o.op = .store t x y) {ti : TI} (ht : env.tt t = some ti) {id off : Nat} (hx : At id off (eval st.tmps x)) {sb sb' : SB}
    (hl : look st.store id = some sb) (hb1 : Nat.beq (cellsOf (eval st.tmps y)).length ti.size = true ∧ (cellsOf (eval st.tmps y)).all oneCell = true)
    (hput : ∀ (ρ : Names) (T : Nat → Prop) (w : World) (b : Nat) (n : List Value), relB ρ T w sb b → relL ρ T w (cellsOf (eval st.tmps y)) n → ∃ (vs : Array Value) (e : TypeId), w.heap[b]? = some (.cells vs e (0, 0)) ∧
      off + n.length ≤ vs.size ∧ ∀ w', w'.heap[b]? = some (.cells (overAt vs.toList off n).toArray e (0, 0)) → Grow T w w' → relB ρ T w' sb' b)
    (h : K (.tup []) [(id, some sb')] st.nxt [] [id]) : Good P st o K := by
  refine ⟨_, _, _, _, _, h, Nat.le_refl _, ?_, Once.one, by simp, fun ρ T a w next Q hr hb _ _ _ hnext => ?_⟩
  · intro i hi
    simp only [List.mem_singleton, List.not_mem_nil, false_or] at hi
    subst hi; exact ⟨_, hl⟩
  · have hy := hr y (by simp [ho, Op.operands])
    obtain ⟨b, h2, h3⟩ := hx _ _ _ _ (hr x (by simp [ho, Op.operands]))
    obtain ⟨sb1, b', h4, h5, hTb, h6⟩ := hb id (.inr (by simp))
    rw [hl] at h4; cases h4
    rw [h2] at h5; cases h5
    have hj : eval st.tmps y ≠ .junk := by
      intro hj
      rw [hj] at hb1
      simp [cellsOf, oneCell] at hb1
    have hcell := cellsOf_rel hy hj
    obtain ⟨vs, e, h7, hfit, h10⟩ := hput ρ T w b _ h6 hcell
    have hl2 := relL_len hcell
    have hlen := Nat.eq_of_beq_eq_true hb1.1
    have hrun : (execOp a.eval o).run P w = .ok .skip (putBlock w b (overAt vs.toList off (a.eval y).cells.toList).toArray e) := by
      have hsz : (a.eval y).cells.size = ti.size := by
        rw [← hlen, hl2]; simp
      simp only [execOp, ho, h3, Instr.storeAt, Instr.sureAddr, Sem.run_bind, Sem.run_pure, Result.andThen_ok, storeVar, (htt _ _ ht).sizeOf, hsz, ne_eq, not_true_eq_false, if_false]
      rw [run_storeCells (e := e) _ 0 vs w h7 (by simpa using hfit) (oneCells_ok hcell hb1.2)]
      simp
    refine wp_skipped hrun (hnext undef _ ρ T ?_)
    have hG : Grow (fun c => c = b) w (putBlock w b (overAt vs.toList off (a.eval y).cells.toList).toArray e) :=
      Grow.put h7 (by rw [List.size_toArray, overAt_len (by simpa using hfit)]; simp) _ rfl
    have hGT : Grow T w (putBlock w b (overAt vs.toList off (a.eval y).cells.toList).toArray e) :=
      hG.mono fun c _ hc => by rw [hc]; exact hTb
    exact {
      names := fun _ _ h => h
      only := fun _ _ h => .inl h
      val := ⟨#[], rfl, rfl⟩
      turned := fun i sb hi => by
        simp only [List.mem_singleton, Prod.mk.injEq, Option.some.injEq] at hi
        obtain ⟨rfl, rfl⟩ := hi
        exact ⟨b, h2, hTb, h10 _ (putBlock_at (Array.getElem?_eq_some_iff.1 h7).1) hGT⟩
      keys := fun i ob hi => by
        simp only [List.mem_singleton, Prod.mk.injEq] at hi
        left; simp [hi.1]
      cover := fun i hi => by obtain rfl := List.mem_singleton.1 hi; exact ⟨_, List.mem_singleton.2 rfl⟩
      fresh := fun i b h1 h2 _ => by omega
      inj := fun i j b _ h1 h2 _ _ _ => by omega
      grow := hG.mono fun c _ hc => ⟨id, by simp, by rw [hc]; exact h2⟩
      tback := fun _ _ h => h
      below := fun i b h1 h2 _ => by omega
      tkeep := fun _ _ h => .inl h }

omit htt in
theorem overAt_get {l m : List Value} {o k : Nat} (h : o + m.length ≤ l.length) : (overAt l o m)[k]? = if k < o then l[k]? else if k < o + m.length then m[k - o]? else l[k]? := by
  unfold overAt
  rw [List.append_assoc, List.getElem?_append]
  have hlt : (l.take o).length = o := by rw [List.length_take]; omega
  rw [hlt]
  by_cases h1 : k < o
  · rw [if_pos h1, if_pos h1, List.getElem?_take, if_pos h1]
  · rw [if_neg h1, if_neg h1, List.getElem?_append]
    by_cases h2 : k < o + m.length
    · rw [if_pos h2, if_pos (by omega)]
    · rw [if_neg h2, if_neg (by omega), List.getElem?_drop]
      congr 1; omega

omit htt in
/-- A store into an element of a row. -/
theorem row_put {ρ : Names} {T : Nat → Prop} {e : TypeId} {sz len i q : Nat} {g : Nat → List SV} {ys cs' : List SV} (hi : i < len) (hfl : ids.idsL ys = []) (hp : putAt (g i) q ys = some cs')
    {w : World} {b : Nat} {n : List Value} (hB : relB ρ T w (.row e sz len g) b) (hn : relL ρ T w ys n) : ∃ (vs : Array Value) (e' : TypeId), w.heap[b]? = some (.cells vs e' (0, 0)) ∧
      (i * sz + q) + n.length ≤ vs.size ∧ ∀ w', w'.heap[b]? = some (.cells (overAt vs.toList (i * sz + q) n).toArray e' (0, 0)) → Grow T w w' → relB ρ T w' (.row e sz len (rowPut i cs' g)) b := by
  obtain ⟨vs, h7, h8, h9⟩ := hB
  have hn0 : relL (fun _ => none) T w ys n := relL_flat _ _ hfl hn
  obtain ⟨h1, h2⟩ := putAt_ok q hp (h9 i hi) hn0
  have hvl : vs.toList.length = vs.size := by simp
  have hisz : (i + 1) * sz ≤ len * sz := Nat.mul_le_mul_right _ (by omega)
  rw [Nat.add_mul, Nat.one_mul] at hisz
  have hl1 := relL_len (h9 i hi)
  rw [List.length_take, List.length_drop] at hl1
  have hl2 := relL_len hn0
  have hfit : (i * sz + q) + n.length ≤ vs.toList.length := by omega
  refine ⟨vs, e, h7, by omega, fun w' hw hG => ⟨_, hw, ?_, fun j hj => ?_⟩⟩
  · rw [List.size_toArray, overAt_len hfit, hvl]; exact h8
  · have hjsz : (j + 1) * sz ≤ len * sz := Nat.mul_le_mul_right _ (by omega)
    rw [Nat.add_mul, Nat.one_mul] at hjsz
    by_cases hij : j = i
    · subst hij
      rw [show rowPut j cs' g j = cs' by simp [rowPut]]
      have hw' : ((overAt vs.toList (j * sz + q) n).drop (j * sz)).take sz = overAt ((vs.toList.drop (j * sz)).take sz) q n := by
        apply List.ext_getElem?
        intro k
        rw [overAt_get (by rw [List.length_take, List.length_drop]; omega), List.getElem?_take, List.getElem?_drop, overAt_get hfit]
        simp only [List.getElem?_take, List.getElem?_drop]
        by_cases hk : k < sz
        · simp only [if_pos hk]
          by_cases a1 : k < q
          · rw [if_pos (by omega), if_pos a1]
          · rw [if_neg (by omega), if_neg a1]
            by_cases a2 : k < q + n.length
            · rw [if_pos (by omega), if_pos a2]; congr 1; omega
            · rw [if_neg (by omega), if_neg a2]
        · simp only [if_neg hk]
          rw [if_neg (by omega), if_neg (by omega)]
      show relL (fun _ => none) T w' cs' (((overAt vs.toList (j * sz + q) n).drop (j * sz)).take sz)
      rw [hw']
      exact relL_mono (fun _ _ h => h) (fun _ _ h => h) hG _ _ h2
    · rw [show rowPut i cs' g j = g j by simp [rowPut, hij]]
      have hw' : ((overAt vs.toList (i * sz + q) n).drop (j * sz)).take sz = (vs.toList.drop (j * sz)).take sz := by
        apply List.ext_getElem?
        intro k
        rw [List.getElem?_take, List.getElem?_drop, overAt_get hfit, List.getElem?_take, List.getElem?_drop]
        by_cases hk : k < sz
        · simp only [if_pos hk]
          rcases Nat.lt_or_gt_of_ne hij with hlt | hgt
          · have : (j + 1) * sz ≤ i * sz := Nat.mul_le_mul_right _ (by omega)
            rw [Nat.add_mul, Nat.one_mul] at this
            rw [if_pos (by omega)]
          · have : (i + 1) * sz ≤ j * sz := Nat.mul_le_mul_right _ (by omega)
            rw [Nat.add_mul, Nat.one_mul] at this
            rw [if_neg (by omega), if_neg (by omega)]
        · simp only [if_neg hk]
      show relL (fun _ => none) T w' (g j) (((overAt vs.toList (i * sz + q) n).drop (j * sz)).take sz)
      rw [hw']
      exact relL_mono (fun _ _ h => h) (fun _ _ h => h) hG _ _ (h9 j hj)

omit htt in
theorem lst_put {ρ : Names} {T : Nat → Prop} {e : TypeId} {off : Nat} {cs ys cs' : List SV} (hp : putAt cs off ys = some cs')
    {w : World} {b : Nat} {n : List Value} (hB : relB ρ T w (.lst e cs) b) (hn : relL ρ T w ys n) : ∃ (vs : Array Value) (e' : TypeId), w.heap[b]? = some (.cells vs e' (0, 0)) ∧
      off + n.length ≤ vs.size ∧ ∀ w', w'.heap[b]? = some (.cells (overAt vs.toList off n).toArray e' (0, 0)) → Grow T w w' → relB ρ T w' (.lst e cs') b := by
  obtain ⟨vs, h7, m, r, hm, h8⟩ := hB
  obtain ⟨h9, h10⟩ := putAt_ok off hp h8 hn
  have hl1 := relL_len h8
  have hl2 := relL_len hn
  have hml := congrArg List.length hm
  have hvl : vs.toList.length = vs.size := by simp
  rw [List.length_append] at hml
  refine ⟨vs, e, h7, by omega, fun w' hw hG => ⟨_, hw, overAt m off n, r, ?_, relL_mono (fun _ _ h => h) (fun _ _ h => h) hG _ _ h10⟩⟩
  unfold overAt
  rw [hm, List.take_append_of_le_length (by omega), List.drop_append_of_le_length (by omega)]
  simp

theorem good_store {t : TypeId} {x y : Operand} (ho : o.op = .store t x y) (h : storeE env t (eval st.tmps x) (eval st.tmps y) st K) : Good P st o K := by
  unfold storeE at h
  split at h
  · exact h.elim
  · rename_i ti ht
    split at h
    · rename_i id off hx
      split at h
      · rename_i e cs hl
        cases hb1 : (Nat.beq (cellsOf (eval st.tmps y)).length ti.size && (cellsOf (eval st.tmps y)).all oneCell) with
        | false => rw [hb1] at h; exact h.elim
        | true =>
          rw [hb1] at h
          simp only [Bool.and_eq_true, cond_true] at hb1 h
          split at h
          · rename_i cs' hp
            refine ⟨_, _, _, _, _, h, Nat.le_refl _, ?_, Once.one, by simp, fun ρ T a w next Q hr hb _ _ _ hnext => ?_⟩
            · intro i hi
              simp only [List.mem_singleton, List.not_mem_nil, false_or] at hi
              subst hi; exact ⟨_, hl⟩
            · have h1 := hr x (by simp [ho, Op.operands])
              have hy := hr y (by simp [ho, Op.operands])
              rw [hx] at h1
              obtain ⟨b, h2, h3⟩ := h1
              obtain ⟨sb, b', h4, h5, hTb, h6⟩ := hb id (.inr (by simp))
              rw [hl] at h4; cases h4
              rw [h2] at h5; cases h5
              obtain ⟨vs, h7, h8⟩ := h6
              have hj : eval st.tmps y ≠ .junk := by
                intro hj
                rw [hj] at hb1
                simp [cellsOf, oneCell] at hb1
              have hcell := cellsOf_rel hy hj
              obtain ⟨h9, h10⟩ := putAt_ok off hp h8 hcell
              have hl1 := relL_len h8
              have hl2 := relL_len hcell
              have hlen := Nat.eq_of_beq_eq_true hb1.1
              have hfit : off + (a.eval y).cells.toList.length ≤ vs.size := by
                rw [← hl2]; simp at hl1; omega
              have hrun : (execOp a.eval o).run P w = .ok .skip (putBlock w b (overAt vs.toList off (a.eval y).cells.toList).toArray e) := by
                have hsz : (a.eval y).cells.size = ti.size := by
                  rw [← hlen, hl2]; simp
                simp only [execOp, ho, h3, Instr.storeAt, Instr.sureAddr, Sem.run_bind, Sem.run_pure, Result.andThen_ok, storeVar, (htt _ _ ht).sizeOf, hsz, ne_eq, not_true_eq_false, if_false]
                rw [run_storeCells (e := e) _ 0 vs w h7 (by simpa using hfit) (oneCells_ok hcell hb1.2)]
                simp
              refine wp_skipped hrun (hnext undef _ ρ T ?_)
              have hG : Grow (fun c => c = b) w (putBlock w b (overAt vs.toList off (a.eval y).cells.toList).toArray e) :=
                Grow.put h7 (by rw [List.size_toArray, overAt_len (by simpa using hfit)]; simp) _ rfl
              have hGT : Grow T w (putBlock w b (overAt vs.toList off (a.eval y).cells.toList).toArray e) :=
                hG.mono fun c _ hc => by rw [hc]; exact hTb
              exact {
                names := fun _ _ h => h
                only := fun _ _ h => .inl h
                val := ⟨#[], rfl, rfl⟩
                turned := fun i sb hi => by
                  simp only [List.mem_singleton, Prod.mk.injEq, Option.some.injEq] at hi
                  obtain ⟨rfl, rfl⟩ := hi
                  exact ⟨b, h2, hTb, _, putBlock_at (Array.getElem?_eq_some_iff.1 h7).1, by
                    simpa using relL_mono (fun _ _ h => h) (fun _ _ h => h) hGT _ _ h10⟩
                keys := fun i ob hi => by
                  simp only [List.mem_singleton, Prod.mk.injEq] at hi
                  left; simp [hi.1]
                cover := fun i hi => by obtain rfl := List.mem_singleton.1 hi; exact ⟨_, List.mem_singleton.2 rfl⟩
                fresh := fun i b h1 h2 _ => by omega
                inj := fun i j b _ h1 h2 _ _ _ => by omega
                grow := hG.mono fun c _ hc => ⟨id, by simp, by rw [hc]; exact h2⟩
                tback := fun _ _ h => h
                below := fun i b h1 h2 _ => by omega
                tkeep := fun _ _ h => .inl h }
          · exact h.elim
      · rename_i e cs hl
        cases hb1 : (Nat.beq (cellsOf (eval st.tmps y)).length ti.size && (cellsOf (eval st.tmps y)).all oneCell) with
        | false => rw [hb1] at h; exact h.elim
        | true =>
          rw [hb1] at h
          simp only [Bool.and_eq_true, cond_true] at hb1 h
          split at h
          · rename_i cs' hp
            refine ⟨_, _, _, _, _, h, Nat.le_refl _, ?_, Once.one, by simp, fun ρ T a w next Q hr hb _ _ _ hnext => ?_⟩
            · intro i hi
              simp only [List.mem_singleton, List.not_mem_nil, false_or] at hi
              subst hi; exact ⟨_, hl⟩
            · have h1 := hr x (by simp [ho, Op.operands])
              have hy := hr y (by simp [ho, Op.operands])
              rw [hx] at h1
              obtain ⟨b, h2, h3⟩ := h1
              obtain ⟨sb, b', h4, h5, hTb, h6⟩ := hb id (.inr (by simp))
              rw [hl] at h4; cases h4
              rw [h2] at h5; cases h5
              obtain ⟨vs, h7, m, r, hm, h8⟩ := h6
              have hj : eval st.tmps y ≠ .junk := by
                intro hj
                rw [hj] at hb1
                simp [cellsOf, oneCell] at hb1
              have hcell := cellsOf_rel hy hj
              obtain ⟨h9, h10⟩ := putAt_ok off hp h8 hcell
              have hl1 := relL_len h8
              have hl2 := relL_len hcell
              have hlen := Nat.eq_of_beq_eq_true hb1.1
              have hml := congrArg List.length hm
              have hvl : vs.toList.length = vs.size := by simp
              rw [List.length_append] at hml
              have hfitm : off + (a.eval y).cells.toList.length ≤ m.length := by
                rw [← hl2]; omega
              have hfit : off + (a.eval y).cells.toList.length ≤ vs.size := by omega
              have hover : overAt vs.toList off (a.eval y).cells.toList = overAt m off (a.eval y).cells.toList ++ r := by
                unfold overAt
                rw [hm, List.take_append_of_le_length (by omega), List.drop_append_of_le_length (by omega)]
                simp
              have hrun : (execOp a.eval o).run P w = .ok .skip (putBlock w b (overAt vs.toList off (a.eval y).cells.toList).toArray e) := by
                have hsz : (a.eval y).cells.size = ti.size := by
                  rw [← hlen, hl2]; simp
                simp only [execOp, ho, h3, Instr.storeAt, Instr.sureAddr, Sem.run_bind, Sem.run_pure, Result.andThen_ok, storeVar, (htt _ _ ht).sizeOf, hsz, ne_eq, not_true_eq_false, if_false]
                rw [run_storeCells (e := e) _ 0 vs w h7 (by simpa using hfit) (oneCells_ok hcell hb1.2)]
                simp
              refine wp_skipped hrun (hnext undef _ ρ T ?_)
              have hG : Grow (fun c => c = b) w (putBlock w b (overAt vs.toList off (a.eval y).cells.toList).toArray e) :=
                Grow.put h7 (by rw [List.size_toArray, overAt_len (by simpa using hfit)]; simp) _ rfl
              have hGT : Grow T w (putBlock w b (overAt vs.toList off (a.eval y).cells.toList).toArray e) :=
                hG.mono fun c _ hc => by rw [hc]; exact hTb
              exact {
                names := fun _ _ h => h
                only := fun _ _ h => .inl h
                val := ⟨#[], rfl, rfl⟩
                turned := fun i sb hi => by
                  simp only [List.mem_singleton, Prod.mk.injEq, Option.some.injEq] at hi
                  obtain ⟨rfl, rfl⟩ := hi
                  exact ⟨b, h2, hTb, _, putBlock_at (Array.getElem?_eq_some_iff.1 h7).1, overAt m off (a.eval y).cells.toList, r, by simp [hover],
                    relL_mono (fun _ _ h => h) (fun _ _ h => h) hGT _ _ h10⟩
                keys := fun i ob hi => by
                  simp only [List.mem_singleton, Prod.mk.injEq] at hi
                  left; simp [hi.1]
                cover := fun i hi => by obtain rfl := List.mem_singleton.1 hi; exact ⟨_, List.mem_singleton.2 rfl⟩
                fresh := fun i b h1 h2 _ => by omega
                inj := fun i j b _ h1 h2 _ _ _ => by omega
                grow := hG.mono fun c _ hc => ⟨id, by simp, by rw [hc]; exact h2⟩
                tback := fun _ _ h => h
                below := fun i b h1 h2 _ => by omega
                tkeep := fun _ _ h => .inl h }
          · exact h.elim
      · exact h.elim
    · rename_i id i sz q hx
      have hat : At id (i * sz + q) (eval st.tmps x) := fun ρ T w y hr => by rw [hx] at hr; exact hr
      split at h
      · rename_i e cs hl
        cases hb1 : (Nat.beq (cellsOf (eval st.tmps y)).length ti.size && (cellsOf (eval st.tmps y)).all oneCell) with
        | false => rw [hb1] at h; exact h.elim
        | true =>
          rw [hb1] at h
          simp only [Bool.and_eq_true, cond_true] at hb1 h
          split at h
          · rename_i cs' hp
            exact good_storeG htt ho ht hat hl hb1 (fun ρ T w b n hB hn => lst_put hp hB hn) h
          · exact h.elim
      · rename_i e sz' len g hl
        cases hb1 : (Nat.beq sz' sz && (Nat.beq (cellsOf (eval st.tmps y)).length ti.size && ((cellsOf (eval st.tmps y)).all oneCell && (ids.idsL (cellsOf (eval st.tmps y))).isEmpty))) with
        | false => rw [hb1] at h; exact h.elim
        | true =>
          rw [hb1] at h
          simp only [Bool.and_eq_true, cond_true, List.isEmpty_iff] at hb1 h
          obtain rfl := Nat.eq_of_beq_eq_true hb1.1
          split at h
          · rename_i cs' hp
            obtain ⟨hi, h⟩ := If.elim h
            exact good_storeG htt ho ht hat hl ⟨hb1.2.1, hb1.2.2.1⟩ (fun ρ T w b n hB hn => row_put (of_decide_eq_true hi) hb1.2.2.2 hp hB hn) h
          · exact h.elim
      · exact h.elim
    · exact h.elim

end
end Go.Se

/- Part 7: composite values, builtins. -/
namespace Go.Se
variable {P : Program}

/-- Values written into an array one by one. -/
theorem foldl_put (off : Nat) : ∀ (l : List Value) (k : Nat) (cs : Array Value), off + k + l.length ≤ cs.size →
    (l.zipIdx k).foldl (fun cs (c, j) => cs.setIfInBounds (off + j) c) cs = (overAt cs.toList (off + k) l).toArray
  | [], k, cs, _ => by simp [overAt]
  | v :: l, k, cs, h => by
    simp only [List.length_cons] at h
    rw [List.zipIdx_cons, List.foldl_cons, foldl_put off l (k + 1) _ (by simp; omega)]
    congr 1
    simp only [overAt, Array.toList_setIfInBounds, List.length_cons]
    have hl : off + k < cs.toList.length := by simp; omega
    rw [show off + (k + 1) = off + k + 1 by omega, show off + k + 1 + l.length = off + k + (l.length + 1) by omega]
    rw [List.take_set, List.drop_set_of_lt (by omega)]
    rw [List.take_succ_eq_append_getElem hl, List.set_append]
    have hm : min (off + k) cs.size = off + k := by simp at hl; omega
    simp [hm]

theorem fill_ok {ρ : Names} {T : Nat → Prop} {w : World} {place : Nat → Option (Nat × Nat)} {e : Operand → SV} {ev : Operand → Value} :
    ∀ (ps : List (Nat × Operand)) (cs cs' : List SV) (vs : Array Value), fillE place (ps.map fun q => (q.1, e q.2)) cs = some cs' → relL ρ T w cs vs.toList →
      (∀ q ∈ ps, rel ρ T w (e q.2) (ev q.2)) → (∀ q ∈ ps, e q.2 ≠ .junk) →
      ∃ vs', Instr.fill place vs (ps.map fun q => (q.1, ev q.2)) = some vs' ∧ relL ρ T w cs' vs'.toList
  | [], cs, cs', vs, h, hc, _, _ => by
    simp only [List.map_nil, fillE, Option.some.injEq] at h
    subst h; exact ⟨vs, rfl, hc⟩
  | (i, x) :: ps, cs, cs', vs, h, hc, hr, hj => by
    simp only [List.map_cons, fillE] at h
    split at h
    · cases h
    · rename_i off size hp
      cases hl : Nat.beq (cellsOf (e x)).length size with
      | false => rw [hl] at h; cases h
      | true =>
        rw [hl] at h
        simp only [cond_true] at h
        split at h
        · rename_i cs1 hput
          have hcell := cellsOf_rel (hr (i, x) (by simp)) (hj (i, x) (by simp))
          obtain ⟨h1, h2⟩ := putAt_ok off hput hc hcell
          have hl' := Nat.eq_of_beq_eq_true hl
          have hl2 := relL_len hcell
          have hl3 := relL_len hc
          have hl4 : cs.length = vs.size := hl3.trans (by simp)
          have hfit : off + (ev x).cells.toList.length ≤ vs.size := by
            have hl5 : (cellsOf (e x)).length = (ev x).cells.toList.length := hl2
            have h1' : off + (cellsOf (e x)).length ≤ cs.length := h1
            omega
          have hsz : (ev x).cells.size = size := by rw [← hl', hl2]; simp
          obtain ⟨vs', h3, h4⟩ := fill_ok ps cs1 cs' (overAt vs.toList off (ev x).cells.toList).toArray h (by simpa using h2)
            (fun q hq => hr q (by simp [hq])) (fun q hq => hj q (by simp [hq]))
          refine ⟨vs', ?_, h4⟩
          simp only [List.map_cons, Instr.fill, hp, hsz, ne_eq, not_true_eq_false, decide_false, Bool.false_or, decide_eq_true_eq]
          rw [if_neg (by simp at hfit ⊢; omega)]
          have := foldl_put off (ev x).cells.toList 0 vs (by simpa using hfit)
          rw [← Array.foldl_toList, Array.toList_zipIdx, this]
          exact h3
        · cases h

theorem run_mapM_ok {α β : Type} {P : Program} {w : World} {f : α → Sem β} {g : α → β} (l : List α) (h : ∀ x ∈ l, (f x).run P w = .ok (g x) w) :
    (l.mapM f).run P w = .ok (l.map g) w := by
  induction l with
  | nil => rfl
  | cons x l ih =>
    rw [List.mapM_cons]
    simp only [Sem.run_bind, h x (by simp), Result.andThen_ok, ih fun y hy => h y (by simp [hy]), Sem.run_pure, List.map_cons]

instance : LawfulMonad Sem := LawfulMonad.mk' Sem
  (id_map := fun x => Sem.bind_pure' x) (pure_bind := fun _ _ => rfl) (bind_assoc := fun x f g => Sem.bind_assoc' x f g)

section
variable {st : St} {o : Oper} {K : KV} {env : Env} (htt : ∀ t ti, env.tt t = some ti → TIok P t ti)

theorem jfree {ps : List (Nat × Operand)} {l : Tmps} (h : (ps.map fun q => (q.1, eval l q.2)).all (fun q => notJunk q.2) = true) : ∀ q ∈ ps, eval l q.2 ≠ .junk := by
  intro q hq hj
  rw [List.all_eq_true] at h
  have := h (q.1, eval l q.2) (List.mem_map.2 ⟨q, hq, rfl⟩)
  simp only [hj] at this
  cases this

include htt
theorem good_build {t : TypeId} {ps : Array (Nat × Operand)} (ho : o.op = .build t ps)
    (h : buildE env t (ps.toList.map fun q => (q.1, eval st.tmps q.2)) fun v => K v [] st.nxt [] []) : Good P st o K := by
  unfold buildE at h
  cases hj : (ps.toList.map fun q => (q.1, eval st.tmps q.2)).all (fun q => notJunk q.2) with
  | false => rw [hj] at h; exact h.elim
  | true =>
  rw [hj] at h
  simp only [cond_true] at h
  have hops : ∀ q ∈ ps.toList, q.2 ∈ o.op.operands := by
    intro q hq
    simp only [ho, Op.operands, List.mem_toArray, List.mem_map]
    exact ⟨q, hq, rfl⟩
  split at h
  · exact h.elim
  · rename_i ti ht
    split at h
    · rename_i fs hk
      split at h
      · rename_i cs hf
        refine Good.pure h (OpOK.pure fun ρ T a w hr => ?_)
        obtain ⟨gs, hgs, hfs, _⟩ := kind_struct (htt _ _ ht) hk
        have hu : ∀ w, (Go.underlying t).run P w = .ok (.struct gs) w := fun w => by simp [Go.underlying, hgs]
        obtain ⟨z, hz, hzc⟩ := (htt _ _ ht).zero (w := w)
        have hex : ∀ f ∈ gs.toList, ∃ i, P.info? f.type = some i := by
          intro f hf
          have := ((htt _ _ ht).held _ hk).2 (f.offset, f.type) (by rw [hfs]; exact List.mem_map.2 ⟨f, hf, rfl⟩)
          exact Option.isSome_iff_exists.1 this
        let g : Field → Nat × Nat := fun f => (f.offset, ((P.info? f.type).map (·.size)).getD 0)
        have hplaces : (gs.mapM fun f => (do Pure.pure (f.offset, ← sizeOf f.type) : Sem (Nat × Nat))).run P w = .ok (gs.map g) w := by
          rw [← Array.toArray_toList (xs := gs), List.mapM_toArray]
          simp only [Sem.run_map]
          rw [run_mapM_ok (g := g)]
          · simp only [Result.andThen_ok]; congr 1; apply Array.ext'; simp
          · intro f hf
            obtain ⟨i, hi⟩ := hex f hf
            simp [Go.sizeOf, Go.typeInfo, hi, g]
        have hplace : ∀ i p, fieldPlace env.tt fs i = some p → (gs.map g)[i]? = some p := by
          intro i p hp
          obtain ⟨off, size⟩ := p
          obtain ⟨gs', hgs', f, hfi, h1, tf, htf, h2, _⟩ := fieldPlace_ok htt (htt _ _ ht) hk hp
          rw [hgs] at hgs'; cases hgs'
          obtain ⟨⟨i', hi', hsz, _⟩, _⟩ := htf
          simp only [Array.getElem?_map, hfi, Option.map_some, g, hi', Option.getD_some, h1]
          rw [hsz, h2]
        have hf' : fillE (fun i => (gs.map g)[i]?) (ps.toList.map fun q => (q.1, eval st.tmps q.2)) ti.zero = some cs := by
          clear h hj hops hz hzc hplaces
          revert hf
          generalize ti.zero = zs
          generalize (ps.toList.map fun q => (q.1, eval st.tmps q.2)) = l
          induction l generalizing zs with
          | nil => intro hf; exact hf
          | cons q l ih =>
            obtain ⟨i, v⟩ := q
            intro hf
            simp only [fillE] at hf ⊢
            split at hf
            · cases hf
            · rename_i off size hp
              rw [hplace i _ hp]
              simp only
              cases hl : Nat.beq (cellsOf v).length size with
              | false => rw [hl] at hf; cases hf
              | true =>
                rw [hl] at hf
                simp only [cond_true] at hf ⊢
                split at hf
                · rename_i c1 hc1
                  exact ih c1 hf
                · cases hf
        obtain ⟨vs', h3, h4⟩ := fill_ok ps.toList ti.zero cs z.cells hf' (zeroCells_rel ρ T w _ _ hzc) (fun q hq => hr _ (hops q hq)) (jfree hj)
        refine ⟨.agg vs', ?_, vs', rfl, h4⟩
        simp only [execOp, ho, Instr.build, Sem.run_bind, hz, Result.andThen_ok, hu, hplaces, Array.toList_map]
        rw [h3]
        rfl
      · exact h.elim
    · rename_i n e hk
      split at h
      · rename_i te hte
        split at h
        · rename_i cs hf
          refine Good.pure h (OpOK.pure fun ρ T a w hr => ?_)
          have hu : ∀ w, (Go.underlying t).run P w = .ok (.array n e) w := fun w => by simp [Go.underlying, kind_array (htt _ _ ht) hk]
          obtain ⟨z, hz, hzc⟩ := (htt _ _ ht).zero (w := w)
          obtain ⟨vs', h3, h4⟩ := fill_ok ps.toList ti.zero cs z.cells hf (zeroCells_rel ρ T w _ _ hzc) (fun q hq => hr _ (hops q hq)) (jfree hj)
          refine ⟨.agg vs', ?_, vs', rfl, h4⟩
          simp only [execOp, ho, Instr.build, Sem.run_bind, hz, Result.andThen_ok, hu, (htt _ _ hte).sizeOf, Array.toList_map]
          rw [h3]
          rfl
        · exact h.elim
      · exact h.elim
    · exact h.elim

omit htt in
theorem relL_map_range {ρ : Names} {T : Nat → Prop} {w : World} {zs : List SV} {z : Array Value} (h : relL ρ T w zs z.toList) :
    relL ρ T w zs ((List.range z.size).map fun i => z[i % z.size]!) := by
  have : ((List.range z.size).map fun i => z[i % z.size]!) = z.toList := by
    apply List.ext_getElem (by simp)
    intro i h1 h2
    simp only [List.length_map, List.length_range] at h1
    simp [Nat.mod_eq_of_lt h1, h1]
  rw [this]; exact h

omit htt in
theorem relL_repeat {ρ : Names} {T : Nat → Prop} {w : World} {zs : List SV} {z : Array Value} (h : relL ρ T w zs z.toList) :
    ∀ n, relL ρ T w (repeatCells zs n) ((List.range (n * z.size)).map fun i => z[i % z.size]!)
  | 0 => by simp [repeatCells, relL]
  | n + 1 => by
    rw [show (n + 1) * z.size = z.size + n * z.size by rw [Nat.succ_mul, Nat.add_comm], List.range_add, List.map_append, List.map_map]
    refine relL_append (relL_map_range h) ?_
    have := relL_repeat h n
    have e : ((fun i => z[i % z.size]!) ∘ fun x => z.size + x) = fun i => z[i % z.size]! := by
      funext i; simp
    rw [e]; exact this

theorem good_buildSlice {t : TypeId} {len : Nat} {ps : Array (Nat × Operand)} (ho : o.op = .buildSlice t len ps)
    (h : buildSliceE env t len (ps.toList.map fun q => (q.1, eval st.tmps q.2)) st K) : Good P st o K := by
  unfold buildSliceE at h
  cases hj : (ps.toList.map fun q => (q.1, eval st.tmps q.2)).all (fun q => notJunk q.2) with
  | false => rw [hj] at h; exact h.elim
  | true =>
  rw [hj] at h
  simp only [cond_true] at h
  have hops : ∀ q ∈ ps.toList, q.2 ∈ o.op.operands := by
    intro q hq
    simp only [ho, Op.operands, List.mem_toArray, List.mem_map]
    exact ⟨q, hq, rfl⟩
  split at h
  · exact h.elim
  · rename_i ti ht
    split at h
    · rename_i e hk
      split at h
      · rename_i te hte
        cases hb : (Nat.ble (len * te.size) 16777216 && Nat.beq te.zero.length te.size) with
        | false => rw [hb] at h; exact h.elim
        | true =>
          rw [hb] at h
          simp only [Bool.and_eq_true, cond_true] at hb h
          split at h
          · rename_i cs hf
            obtain ⟨hlen, h⟩ := If.elim h
            refine ⟨_, _, _, _, _, h, Nat.le_succ _, by simp, Once.one, by simp, fun ρ T a w next Q hr _ _ hρ hn hnext => ?_⟩
            have hu : ∀ w, (Go.underlying t).run P w = .ok (.slice e) w := fun w => by simp [Go.underlying, kind_slice (htt _ _ ht) hk]
            obtain ⟨z, hz, hzc⟩ := (htt _ _ hte).zero (w := w)
            have hzr := zeroCells_rel ρ T w _ _ hzc
            have hzs : z.cells.size = te.size := by
              have := relL_len hzr
              rw [Nat.eq_of_beq_eq_true hb.2] at this
              simpa using this.symm
            have hle : ¬ len * te.size > 2 ^ 24 := by
              have := Nat.le_of_ble_eq_true hb.1
              omega
            have hcells : relL ρ T w (repeatCells te.zero len) (((Array.range (len * te.size)).map fun i => z.cells[i % z.cells.size]!)).toList := by
              have := relL_repeat hzr len
              rw [hzs] at this
              rw [hzs]
              simpa [Array.toList_range] using this
            obtain ⟨vs', h3, h4⟩ := fill_ok ps.toList _ cs _ hf hcells (fun q hq => hr _ (hops q hq)) (jfree hj)
            have hrun : (execOp a.eval o).run P w = .ok (.value (.slice (some ⟨w.heap.size, 0, none⟩) len len)) (w.alloc (.cells vs' e)) := by
              simp only [execOp, ho, Instr.buildSlice, Sem.run_bind, hu, Result.andThen_ok, (htt _ _ hte).sizeOf, Array.toList_map]
              rw [if_neg hle]
              by_cases h0 : len * te.size = 0
              · have harr : (Array.range (len * te.size)).map (fun i => (#[] : Array Value)[i % (#[] : Array Value).size]!) =
                    (Array.range (len * te.size)).map fun i => z.cells[i % z.cells.size]! := by rw [h0]; simp
                rw [if_pos h0]
                simp only [Sem.run_bind, Sem.run_pure, Result.andThen_ok]
                rw [harr, h3]
                simp [newRow]
              · rw [if_neg h0]
                simp only [Sem.run_bind, hz, Sem.run_pure, Result.andThen_ok]
                rw [h3]
                simp [newRow]
            refine wp_value hrun (hnext _ _ _ _ (Done.new hρ (hn _ (Nat.le_refl _) (Nat.lt_succ_self _)) h4 ?_))
            exact ⟨⟨_, by simp [named], rfl⟩, by simpa using hlen⟩
          · exact h.elim
      · exact h.elim
    · exact h.elim

end
end Go.Se

