/- Each operation does what its symbolic run says. Part 1: what this means; values alone. -/
import Derived.Test.YtheedafdaolooaaSeRun
namespace Go.Se
variable {P : Program}

/-- What an operation has come to: memory, names, its value. -/
structure Done (ρ : Names) (T : Nat → Prop) (w : World) (nxt nxt' : Nat) (v : SV) (u : Store) (wr : List Nat) (ρ' : Names) (T' : Nat → Prop) (w' : World) (x : Value) : Prop where
  names : ∀ id b, ρ id = some b → ρ' id = some b
  only : ∀ id b, ρ' id = some b → ρ id = some b ∨ (nxt ≤ id ∧ id < nxt')
  val : rel ρ' T' w' v x
  turned : ∀ id sb, (id, some sb) ∈ u → ∃ b, ρ' id = some b ∧ T' b ∧ relB ρ' T' w' sb b
  keys : ∀ id o, (id, o) ∈ u → id ∈ wr ∨ (nxt ≤ id ∧ id < nxt')
  cover : ∀ id, id ∈ wr → ∃ o, (id, o) ∈ u
  fresh : ∀ id b, nxt ≤ id → id < nxt' → ρ' id = some b → w.heap.size ≤ b ∨ ∃ j, j ∈ wr ∧ (j, none) ∈ u ∧ ρ j = some b
  inj : ∀ i j b, nxt ≤ i → i < nxt' → nxt ≤ j → j < nxt' → ρ' i = some b → ρ' j = some b → i = j
  grow : Grow (fun b => ∃ id, id ∈ wr ∧ ρ id = some b) w w'
  tback : ∀ b, b < w.heap.size → T' b → T b
  below : ∀ id b, nxt ≤ id → id < nxt' → ρ' id = some b → b < w'.heap.size
  tkeep : ∀ b, b < w.heap.size → T b → T' b ∨ ∃ j, j ∈ wr ∧ (j, none) ∈ u ∧ ρ j = some b

theorem Done.pure {ρ : Names} {T : Nat → Prop} {w : World} {n : Nat} {v : SV} {x : Value} (h : rel ρ T w v x) : Done ρ T w n n v [] [] ρ T w x where
  names _ _ h := h
  only _ _ h := .inl h
  val := h
  turned _ _ h := by cases h
  keys _ _ h := by cases h
  cover _ h := by cases h
  fresh _ _ h1 h2 _ := by omega
  inj _ _ _ h1 h2 _ _ _ _ := by omega
  grow := Grow.refl _ _
  tback _ _ h := h
  below _ _ h1 h2 _ := by omega
  tkeep _ _ h := .inl h

/-- The operation, run where what it looks at is as told, comes to what is told. -/
def OpOK (P : Program) (st : St) (o : Oper) (v : SV) (u : Store) (n : Nat) (rd wr : List Nat) : Prop :=
  ∀ (ρ : Names) (T : Nat → Prop) (a : Act) (w : World) (next : Act → World → Prop) (Q : Exit → Act → World → Prop),
    (∀ x, x ∈ o.op.operands → rel ρ T w (eval st.tmps x) (a.eval x)) →
    (∀ id, id ∈ rd ∨ id ∈ wr → ∃ sb b, look st.store id = some sb ∧ ρ id = some b ∧ T b ∧ relB ρ T w sb b) →
    (∀ i j b, i ∈ rd ∨ i ∈ wr → j ∈ rd ∨ j ∈ wr → ρ i = some b → ρ j = some b → i = j) →
    (∀ id b, ρ id = some b → b < w.heap.size) →
    (∀ id, st.nxt ≤ id → id < n → ρ id = none) →
    (∀ x w' ρ' T', Done ρ T w st.nxt n v u wr ρ' T' w' x → next (a.put o.dst x) w') →
    o.wp P a w next Q

theorem wp_value {o : Oper} {a : Act} {w w' : World} {x : Value} {next : Act → World → Prop} {Q : Exit → Act → World → Prop}
    (h : (execOp a.eval o).run P w = .ok (.value x) w') (hn : next (a.put o.dst x) w') : o.wp P a w next Q := by
  unfold Oper.wp; rw [h]; exact hn

theorem wp_skipped {o : Oper} {a : Act} {w w' : World} {next : Act → World → Prop} {Q : Exit → Act → World → Prop}
    (h : (execOp a.eval o).run P w = .ok .skip w') (hn : next (a.put o.dst undef) w') : o.wp P a w next Q := by
  unfold Oper.wp; rw [h]; exact hn

/-- An operation that only computes. -/
theorem OpOK.pure {st : St} {o : Oper} {v : SV}
    (h : ∀ (ρ : Names) (T : Nat → Prop) (a : Act) (w : World), (∀ x, x ∈ o.op.operands → rel ρ T w (eval st.tmps x) (a.eval x)) →
      ∃ x, (execOp a.eval o).run P w = .ok (.value x) w ∧ rel ρ T w v x) : OpOK P st o v [] st.nxt [] [] := by
  intro ρ T a w next Q hx _ _ _ _ hn
  obtain ⟨x, hr, hv⟩ := h ρ T a w hx
  exact wp_value hr (hn x w ρ T (Done.pure hv))

/-- The same for its value alone. -/
theorem OpOK.pureV {st : St} {o : Oper} {v : SV}
    (h : ∀ (ρ : Names) (T : Nat → Prop) (a : Act) (w : World), (∀ x, x ∈ o.op.operands → rel ρ T w (eval st.tmps x) (a.eval x)) →
      ∃ (s : Sem Value) (x : Value), execOp a.eval o = (do Pure.pure (Next.value (← s))) ∧ s.run P w = .ok x w ∧ rel ρ T w v x) : OpOK P st o v [] st.nxt [] [] :=
  OpOK.pure fun ρ T a w hx => by
    obtain ⟨s, x, h1, h2, h3⟩ := h ρ T a w hx
    exact ⟨x, by rw [h1]; simp [h2], h3⟩

/-- No block is told twice. -/
def Once (st : St) (u : Store) : Prop :=
  (∀ id sb, look st.store id = some sb → id < st.nxt) → ∀ id x y, (id, x) ∈ u → (id, y) ∈ u → x = y

theorem Once.nil {st : St} : Once st [] := fun _ _ _ _ h => by cases h

theorem Once.one {st : St} {p : Nat × Option SB} : Once st [p] := fun _ id x y hx hy => by
  simp only [List.mem_singleton] at hx hy
  have := hx.trans hy.symm
  simpa using this

/-- What the symbolic run of an operation must come to. -/
def Good (P : Program) (st : St) (o : Oper) (K : KV) : Prop :=
  ∃ v u n rd wr, K v u n rd wr ∧ st.nxt ≤ n ∧ (∀ id, id ∈ rd ∨ id ∈ wr → ∃ sb, look st.store id = some sb) ∧ Once st u ∧
    (∀ id o, (id, o) ∈ u → id ∈ wr ∨ (st.nxt ≤ id ∧ id < n)) ∧ OpOK P st o v u n rd wr

theorem Good.pure {st : St} {o : Oper} {K : KV} {v : SV} (hK : K v [] st.nxt [] []) (h : OpOK P st o v [] st.nxt [] []) : Good P st o K :=
  ⟨v, [], st.nxt, [], [], hK, Nat.le_refl _, by simp, Once.nil, by simp, h⟩

theorem wrap_in (k : IntKind) (n : Int) : k.min ≤ k.wrap n ∧ k.wrap n ≤ k.max := by
  cases k
  case i8 => show (-128 : Int) ≤ _ ∧ _ ≤ (127 : Int); unfold IntKind.wrap; simp only [IntKind.signed, IntKind.bits, Bool.true_and, Nat.reduceSub, Int.reducePow]; by_cases hd : n % 256 ≥ 128 <;> simp only [hd, decide_true, decide_false, if_true, if_false, Bool.false_eq_true] <;> omega
  case i16 => show (-32768 : Int) ≤ _ ∧ _ ≤ (32767 : Int); unfold IntKind.wrap; simp only [IntKind.signed, IntKind.bits, Bool.true_and, Nat.reduceSub, Int.reducePow]; by_cases hd : n % 65536 ≥ 32768 <;> simp only [hd, decide_true, decide_false, if_true, if_false, Bool.false_eq_true] <;> omega
  case i32 => show (-2147483648 : Int) ≤ _ ∧ _ ≤ (2147483647 : Int); unfold IntKind.wrap; simp only [IntKind.signed, IntKind.bits, Bool.true_and, Nat.reduceSub, Int.reducePow]; by_cases hd : n % 4294967296 ≥ 2147483648 <;> simp only [hd, decide_true, decide_false, if_true, if_false, Bool.false_eq_true] <;> omega
  case i64 => show (-9223372036854775808 : Int) ≤ _ ∧ _ ≤ (9223372036854775807 : Int); unfold IntKind.wrap; simp only [IntKind.signed, IntKind.bits, Bool.true_and, Nat.reduceSub, Int.reducePow]; by_cases hd : n % 18446744073709551616 ≥ 9223372036854775808 <;> simp only [hd, decide_true, decide_false, if_true, if_false, Bool.false_eq_true] <;> omega
  case u8 => show (0 : Int) ≤ _ ∧ _ ≤ (255 : Int); unfold IntKind.wrap; simp only [IntKind.signed, IntKind.bits, Bool.false_and, Bool.false_eq_true, if_false, Int.reducePow]; omega
  case u16 => show (0 : Int) ≤ _ ∧ _ ≤ (65535 : Int); unfold IntKind.wrap; simp only [IntKind.signed, IntKind.bits, Bool.false_and, Bool.false_eq_true, if_false, Int.reducePow]; omega
  case u32 => show (0 : Int) ≤ _ ∧ _ ≤ (4294967295 : Int); unfold IntKind.wrap; simp only [IntKind.signed, IntKind.bits, Bool.false_and, Bool.false_eq_true, if_false, Int.reducePow]; omega
  case u64 => show (0 : Int) ≤ _ ∧ _ ≤ (18446744073709551615 : Int); unfold IntKind.wrap; simp only [IntKind.signed, IntKind.bits, Bool.false_and, Bool.false_eq_true, if_false, Int.reducePow]; omega

theorem eval_lit (ρ : Names) (T : Nat → Prop) (w : World) (v : Value) : rel ρ T w (ofLit v) v := by
  unfold ofLit
  split
  · rename_i k n
    cases h : decide (k.min ≤ n) && decide (n ≤ k.max) with
    | true => simp only [Bool.and_eq_true, decide_eq_true_eq] at h; exact ⟨rfl, h⟩
    | false => trivial
  · rfl
  · rename_i s
    cases h : Nat.blt s.size 9223372036854775808 with
    | true => exact ⟨rfl, by simpa using h⟩
    | false => trivial
  all_goals first | rfl | trivial

/-- The operands, out of the temporaries. -/
theorem eval_rel {ρ : Names} {T : Nat → Prop} {w : World} {l : Tmps} {a : Act} {x : Operand} (h : ∀ t, x = .tmp t → rel ρ T w (get l t) (a.tmps.getD t undef)) :
    rel ρ T w (eval l x) (a.eval x) := by
  cases x with
  | tmp t => exact h t rfl
  | const v => exact eval_lit ρ T w v
  | global g => trivial
  | func f => exact ⟨#[], #[], rfl, rfl, rfl⟩

end Go.Se

/- Part 2: operations that only compute with values. -/
namespace Go.Se
variable {P : Program}

theorem If.elim {c : Bool} {A : Prop} (h : If c A) : c = true ∧ A := by
  cases c
  · exact h.elim
  · exact ⟨rfl, h⟩

theorem tdiv_in (k : IntKind) (a b : Int) : k.min ≤ k.wrap (a.tdiv b) ∧ k.wrap (a.tdiv b) ≤ k.max := wrap_in k _

theorem tmod_in (k : IntKind) {a b : Int} (ha : k.min ≤ a ∧ a ≤ k.max) : k.min ≤ a.tmod b ∧ a.tmod b ≤ k.max := by
  have hz := in_min_max_zero k
  rcases Int.le_total 0 a with h | h
  · have h1 := Int.tmod_nonneg b h
    have h2 : a.tmod b ≤ a := by
      by_cases hb : b = 0
      · subst hb; simp
      · have h3 : (a.tmod b).natAbs ≤ a.natAbs := by
          rw [Int.natAbs_tmod]; exact Nat.mod_le _ _
        omega
    omega
  · have h1 : a.tmod b ≤ 0 := by
      have := Int.tmod_nonneg b (a := -a) (by omega)
      rw [Int.neg_tmod] at this; omega
    have h2 : a ≤ a.tmod b := by
      have h3 : (a.tmod b).natAbs ≤ a.natAbs := by
        rw [Int.natAbs_tmod]; exact Nat.mod_le _ _
      omega
    omega

theorem fdiv_in (k : IntKind) {a : Int} (n : Nat) (ha : k.min ≤ a ∧ a ≤ k.max) : k.min ≤ a.fdiv (2 ^ n) ∧ a.fdiv (2 ^ n) ≤ k.max := by
  have hz := in_min_max_zero k
  have hp : (0 : Int) < 2 ^ n := Int.pow_pos (by decide)
  rw [Int.fdiv_eq_ediv_of_nonneg _ (Int.le_of_lt hp)]
  have h1 : (1 : Int) ≤ 2 ^ n := hp
  rcases Int.le_total 0 a with h | h
  · have h2 := Int.ediv_nonneg h (Int.le_of_lt hp)
    have h3 := Int.ediv_le_self (2 ^ n) h
    omega
  · have h2 : a / 2 ^ n ≤ 0 := by
      have := Int.ediv_le_ediv hp h
      simpa using this
    have h3 : a ≤ a / 2 ^ n := by
      rw [Int.le_ediv_iff_mul_le hp]
      have h4 := Int.mul_le_mul_of_nonpos_left (a := a) h h1
      omega
    omega

theorem binInt_ok {op : BinOp} {k : IntKind} {a b : Int} {K : SV → Prop} (ha : k.min ≤ a ∧ a ≤ k.max) (h : binInt op k a b K) (t : TypeId) :
    ∃ v, K v ∧ ∀ (ρ : Names) (T : Nat → Prop) (w : World) (yk : IntKind), ((op = .shl ∨ op = .shr) ∨ k = yk) →
      ∃ x, (Go.binOp op t (.int k a) (.int yk b)).run P w = .ok x w ∧ rel ρ T w v x := by
  cases op
  case quo =>
    obtain ⟨hb, h⟩ := If.elim h
    refine ⟨_, h, fun ρ T w yk hk => ?_⟩
    obtain rfl : k = yk := by simpa using hk
    have hb' : b ≠ 0 := by simpa using hb
    refine ⟨_, by simp [Go.binOp, Op.intDiv, hb'], rfl, wrap_in _ _⟩
  case rem =>
    obtain ⟨hb, h⟩ := If.elim h
    refine ⟨_, h, fun ρ T w yk hk => ?_⟩
    obtain rfl : k = yk := by simpa using hk
    have hb' : b ≠ 0 := by simpa using hb
    refine ⟨_, by simp [Go.binOp, Op.intDiv, hb'], rfl, tmod_in k ha⟩
  case shl =>
    obtain ⟨hb, h⟩ := If.elim h
    refine ⟨_, h, fun ρ T w yk hk => ?_⟩
    have hb' : ¬ b < 0 := by simpa using hb
    refine ⟨_, by simp [Go.binOp, Op.shift, hb'], rfl, wrap_in _ _⟩
  case shr =>
    obtain ⟨hb, h⟩ := If.elim h
    refine ⟨_, h, fun ρ T w yk hk => ?_⟩
    have hb' : ¬ b < 0 := by simpa using hb
    refine ⟨_, by simp [Go.binOp, Op.shift, hb'], rfl, fdiv_in k _ ha⟩
  case and =>
    refine ⟨_, h, fun ρ T w yk hk => ?_⟩
    obtain rfl : k = yk := by simpa using hk
    exact ⟨_, by rw [show Go.binOp .and t (.int k a) (.int k b) = Op.intBits .and k a b from by simp [Go.binOp]]; rfl, rfl, wrap_in _ _⟩
  case or =>
    refine ⟨_, h, fun ρ T w yk hk => ?_⟩
    obtain rfl : k = yk := by simpa using hk
    exact ⟨_, by rw [show Go.binOp .or t (.int k a) (.int k b) = Op.intBits .or k a b from by simp [Go.binOp]]; rfl, rfl, wrap_in _ _⟩
  case xor =>
    refine ⟨_, h, fun ρ T w yk hk => ?_⟩
    obtain rfl : k = yk := by simpa using hk
    exact ⟨_, by rw [show Go.binOp .xor t (.int k a) (.int k b) = Op.intBits .xor k a b from by simp [Go.binOp]]; rfl, rfl, wrap_in _ _⟩
  case andNot =>
    refine ⟨_, h, fun ρ T w yk hk => ?_⟩
    obtain rfl : k = yk := by simpa using hk
    exact ⟨_, by rw [show Go.binOp .andNot t (.int k a) (.int k b) = Op.intBits .andNot k a b from by simp [Go.binOp]]; rfl, rfl, wrap_in _ _⟩
  all_goals
    refine ⟨_, h, fun ρ T w yk hk => ?_⟩
    obtain rfl : k = yk := by simpa using hk
    first
      | refine ⟨_, by simp [Go.binOp, Op.intArith], rfl, wrap_in _ _⟩
      | refine ⟨_, by simp [Go.binOp, Op.intCmp], rfl⟩

end Go.Se

