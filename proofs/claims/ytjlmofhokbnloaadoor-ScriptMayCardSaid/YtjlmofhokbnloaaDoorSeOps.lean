/- Each operation does what its symbolic run says. Part 1: what this means; values alone. -/
import Derived.Test.YtjlmofhokbnloaaDoorSeDefs
import Derived.CallsIn
import Derived.RangeFuncCalls
import Derived.RangeFuncLeaves
import Derived.RangeFuncRecord
import Derived.LoopNIn
import Derived.OrdersIn
import Derived.Laws.StructEq
namespace Go.Se
variable {P : Program}

/-- What an operation has come to: memory, names, its value. -/
structure Done (ρ : Names) (T : Nat → Prop) (w : World) (nxt nxt' : Nat) (v : SV) (u : Store) (wr : List Nat) (ρ' : Names) (T' : Nat → Prop) (w' : World) (x : Value) : Prop where
  names : ∀ id b, ρ id = some b → ρ' id = some b
  only : ∀ id b, ρ' id = some b → ρ id = some b ∨ (nxt ≤ id ∧ id < nxt')
  val : rel ρ' T' w' v x
  turned : ∀ id sb, (id, some sb) ∈ u → ∃ b, ρ' id = some b ∧ T' b ∧ relB ρ' T' w' sb b
  keys : ∀ id o, (id, o) ∈ u → id ∈ wr ∨ (nxt ≤ id ∧ id < nxt')
  cover : ∀ id, id ∈ wr → ∃ o, (id, o) ∈ u
  fresh : ∀ id b, nxt ≤ id → id < nxt' → ρ' id = some b → w.heap.size ≤ b ∨ ∃ j, j ∈ wr ∧ (j, none) ∈ u ∧ ρ j = some b
  inj : ∀ i j b, nxt ≤ i → i < nxt' → nxt ≤ j → j < nxt' → ρ' i = some b → ρ' j = some b → i = j
  grow : Grow (fun b => ∃ id, id ∈ wr ∧ ρ id = some b) w w'
  tback : ∀ b, b < w.heap.size → T' b → T b
  below : ∀ id b, nxt ≤ id → id < nxt' → ρ' id = some b → b < w'.heap.size
  tkeep : ∀ b, b < w.heap.size → T b → T' b ∨ ∃ j, j ∈ wr ∧ (j, none) ∈ u ∧ ρ j = some b

theorem Done.pure {ρ : Names} {T : Nat → Prop} {w : World} {n : Nat} {v : SV} {x : Value} (h : rel ρ T w v x) : Done ρ T w n n v [] [] ρ T w x where
  names _ _ h := h
  only _ _ h := .inl h
  val := h
  turned _ _ h := by cases h
  keys _ _ h := by cases h
  cover _ h := by cases h
  fresh _ _ h1 h2 _ := by omega
  inj _ _ _ h1 h2 _ _ _ _ := by omega
  grow := Grow.refl _ _
  tback _ _ h := h
  below _ _ h1 h2 _ := by omega
  tkeep _ _ h := .inl h

/-- All names are of blocks that are there; the library's variable lies as it was laid. -/
structure Low (P : Program) (ρ : Names) (T : Nat → Prop) (w : World) : Prop where
  low : ∀ id b, ρ id = some b → b < w.heap.size
  inv : Inv P T w

instance (P : Program) (ρ : Names) (T : Nat → Prop) (w : World) : CoeFun (Low P ρ T w) (fun _ => ∀ id b, ρ id = some b → b < w.heap.size) := ⟨Low.low⟩

/-- No fence; in a round of a range over a function, or not. -/
def Wd (F : Fence) : Prop := ∃ ro, F = { Fence.wide with round := ro }
theorem Wd.fn {F : Fence} (h : Wd F) (f : FuncId) : F.fn f := by obtain ⟨ro, rfl⟩ := h; exact trivial
theorem Wd.depth {F : Fence} (h : Wd F) : F.depth = none := by obtain ⟨ro, rfl⟩ := h; rfl
theorem Wd.in {F : Fence} (h : Wd F) (l : Nat) : Wd (F.inRound l) := by obtain ⟨ro, rfl⟩ := h; exact ⟨some l, rfl⟩
theorem Wd.calls {F : Fence} (h : Wd F) {n : Nat} {f : FuncId} {args : Array Value} {w : World} {R : Ending → World → Prop} (hc : Calls P f args w R) : CallsIn F n P f args w R := by
  obtain ⟨ro, rfl⟩ := h
  have h1 := (callsIn_wide (n := n)).2 hc
  cases ro with
  | none => exact h1
  | some l => exact CallsIn.inRound l h1
/-- An operation, run without a fence. -/
def wpW (P : Program) (o : Oper) (a : Act) (w : World) (next : Act → World → Prop) (Q : Exit → Act → World → Prop) : Prop :=
  ∀ (F : Fence) (n : Nat), Wd F → o.wpIn F n P a w next Q
theorem wpW_of {o : Oper} {a : Act} {w : World} {next : Act → World → Prop} {Q : Exit → Act → World → Prop} (ho : ∀ c, o.op ≠ .defer c)
    (h : ∀ (F : Fence) (n : Nat), Wd F → o.uponIn F n P a next Q ((execOp a.eval o).run P w)) : wpW P o a w next Q := fun F n hF =>
  ⟨fun f _ => hF.fn f, by rw [Oper.semAt_eq _ _ _ ho]; exact h F n hF⟩

/-- The operation, run where what it looks at is as told, comes to what is told. -/
def OpOK (P : Program) (st : St) (o : Oper) (v : SV) (u : Store) (n : Nat) (rd wr : List Nat) : Prop :=
  ∀ (ρ : Names) (T : Nat → Prop) (a : Act) (w : World) (next : Act → World → Prop) (Q : Exit → Act → World → Prop),
    (∀ x, x ∈ o.op.operands → rel ρ T w (eval st.tmps x) (a.eval x)) →
    (∀ id, id ∈ rd ∨ id ∈ wr → ∃ sb b, look st.store id = some sb ∧ ρ id = some b ∧ T b ∧ relB ρ T w sb b) →
    (∀ i j b, i ∈ rd ∨ i ∈ wr → j ∈ rd ∨ j ∈ wr → ρ i = some b → ρ j = some b → i = j) →
    Low P ρ T w →
    (∀ id, st.nxt ≤ id → id < n → ρ id = none) →
    (∀ x w' ρ' T', Done ρ T w st.nxt n v u wr ρ' T' w' x → next (a.put o.dst x) w') →
    wpW P o a w next Q

theorem no_defer {o : Oper} {a : Act} {w w' : World} {c : Call} {x : Next} (hx : ∀ d, x ≠ .defer d) (h : (execOp a.eval o).run P w = .ok x w') : o.op ≠ .defer c := fun e => by
  simp only [execOp, e, Sem.run_bind] at h
  cases hr : (resolve a.eval c o.type).run P w with
  | ok d w2 =>
    rw [hr] at h
    simp only [Result.andThen_ok, Sem.run_pure] at h
    cases h
    exact hx d rfl
  | halt _ _ => rw [hr] at h; cases h
theorem wp_value {o : Oper} {a : Act} {w w' : World} {x : Value} {next : Act → World → Prop} {Q : Exit → Act → World → Prop}
    (h : (execOp a.eval o).run P w = .ok (.value x) w') (hn : next (a.put o.dst x) w') : wpW P o a w next Q :=
  wpW_of (fun _ => no_defer (fun _ h => by cases h) h) fun F n _ => by rw [h]; exact hn

theorem wp_skipped {o : Oper} {a : Act} {w w' : World} {next : Act → World → Prop} {Q : Exit → Act → World → Prop}
    (h : (execOp a.eval o).run P w = .ok .skip w') (hn : next (a.put o.dst undef) w') : wpW P o a w next Q :=
  wpW_of (fun _ => no_defer (fun _ h => by cases h) h) fun F n _ => by rw [h]; exact hn

/-- An operation that only computes. -/
theorem OpOK.pure {st : St} {o : Oper} {v : SV}
    (h : ∀ (ρ : Names) (T : Nat → Prop) (a : Act) (w : World), (∀ x, x ∈ o.op.operands → rel ρ T w (eval st.tmps x) (a.eval x)) →
      ∃ x, (execOp a.eval o).run P w = .ok (.value x) w ∧ rel ρ T w v x) : OpOK P st o v [] st.nxt [] [] := by
  intro ρ T a w next Q hx _ _ _ _ hn
  obtain ⟨x, hr, hv⟩ := h ρ T a w hx
  exact wp_value hr (hn x w ρ T (Done.pure hv))

/-- No block is told twice. -/
def Once (st : St) (u : Store) : Prop :=
  (∀ id sb, look st.store id = some sb → id < st.nxt) → ∀ id x y, (id, x) ∈ u → (id, y) ∈ u → x = y

theorem Once.nil {st : St} : Once st [] := fun _ _ _ _ h => by cases h

theorem Once.one {st : St} {p : Nat × Option SB} : Once st [p] := fun _ id x y hx hy => by
  simp only [List.mem_singleton] at hx hy
  have := hx.trans hy.symm
  simpa using this

/-- What the symbolic run of an operation must come to. -/
def Good (P : Program) (st : St) (o : Oper) (K : KV) : Prop :=
  ∃ v u n rd wr, K v u n rd wr ∧ st.nxt ≤ n ∧ (∀ id, id ∈ rd ∨ id ∈ wr → ∃ sb, look st.store id = some sb) ∧ Once st u ∧
    (∀ id o, (id, o) ∈ u → id ∈ wr ∨ (st.nxt ≤ id ∧ id < n)) ∧ OpOK P st o v u n rd wr

theorem Good.pure {st : St} {o : Oper} {K : KV} {v : SV} (hK : K v [] st.nxt [] []) (h : OpOK P st o v [] st.nxt [] []) : Good P st o K :=
  ⟨v, [], st.nxt, [], [], hK, Nat.le_refl _, by simp, Once.nil, by simp, h⟩

theorem wrap_in (k : IntKind) (n : Int) : k.min ≤ k.wrap n ∧ k.wrap n ≤ k.max := by
  cases k
  case i8 => show (-128 : Int) ≤ _ ∧ _ ≤ (127 : Int); unfold IntKind.wrap; simp only [IntKind.signed, IntKind.bits, Bool.true_and, Nat.reduceSub, Int.reducePow]; by_cases hd : n % 256 ≥ 128 <;> simp only [hd, decide_true, decide_false, if_true, if_false, Bool.false_eq_true] <;> omega
  case i16 => show (-32768 : Int) ≤ _ ∧ _ ≤ (32767 : Int); unfold IntKind.wrap; simp only [IntKind.signed, IntKind.bits, Bool.true_and, Nat.reduceSub, Int.reducePow]; by_cases hd : n % 65536 ≥ 32768 <;> simp only [hd, decide_true, decide_false, if_true, if_false, Bool.false_eq_true] <;> omega
  case i32 => show (-2147483648 : Int) ≤ _ ∧ _ ≤ (2147483647 : Int); unfold IntKind.wrap; simp only [IntKind.signed, IntKind.bits, Bool.true_and, Nat.reduceSub, Int.reducePow]; by_cases hd : n % 4294967296 ≥ 2147483648 <;> simp only [hd, decide_true, decide_false, if_true, if_false, Bool.false_eq_true] <;> omega
  case i64 => show (-9223372036854775808 : Int) ≤ _ ∧ _ ≤ (9223372036854775807 : Int); unfold IntKind.wrap; simp only [IntKind.signed, IntKind.bits, Bool.true_and, Nat.reduceSub, Int.reducePow]; by_cases hd : n % 18446744073709551616 ≥ 9223372036854775808 <;> simp only [hd, decide_true, decide_false, if_true, if_false, Bool.false_eq_true] <;> omega
  case u8 => show (0 : Int) ≤ _ ∧ _ ≤ (255 : Int); unfold IntKind.wrap; simp only [IntKind.signed, IntKind.bits, Bool.false_and, Bool.false_eq_true, if_false, Int.reducePow]; omega
  case u16 => show (0 : Int) ≤ _ ∧ _ ≤ (65535 : Int); unfold IntKind.wrap; simp only [IntKind.signed, IntKind.bits, Bool.false_and, Bool.false_eq_true, if_false, Int.reducePow]; omega
  case u32 => show (0 : Int) ≤ _ ∧ _ ≤ (4294967295 : Int); unfold IntKind.wrap; simp only [IntKind.signed, IntKind.bits, Bool.false_and, Bool.false_eq_true, if_false, Int.reducePow]; omega
  case u64 => show (0 : Int) ≤ _ ∧ _ ≤ (18446744073709551615 : Int); unfold IntKind.wrap; simp only [IntKind.signed, IntKind.bits, Bool.false_and, Bool.false_eq_true, if_false, Int.reducePow]; omega

theorem eval_lit (ρ : Names) (T : Nat → Prop) (w : World) (v : Value) : rel ρ T w (ofLit v) v := by
  unfold ofLit
  split
  · rename_i k n
    cases h : decide (k.min ≤ n) && decide (n ≤ k.max) with
    | true => simp only [Bool.and_eq_true, decide_eq_true_eq] at h; exact ⟨rfl, h⟩
    | false => trivial
  · rfl
  · rename_i s
    cases h : Nat.blt s.size 9223372036854775808 with
    | true => exact ⟨rfl, by simpa using h⟩
    | false => trivial
  all_goals first | rfl | trivial

/-- The operands, out of the temporaries. -/
theorem eval_rel {ρ : Names} {T : Nat → Prop} {w : World} {l : Tmps} {a : Act} {x : Operand} (h : ∀ t, x = .tmp t → rel ρ T w (get l t) (a.tmps.getD t undef)) :
    rel ρ T w (eval l x) (a.eval x) := by
  cases x with
  | tmp t => exact h t rfl
  | const v => exact eval_lit ρ T w v
  | global g => trivial
  | func f => exact ⟨#[], #[], rfl, rfl, rfl⟩

end Go.Se

/- Part 2: operations that only compute with values. -/
namespace Go.Se
variable {P : Program}

theorem Br.elim {c : Bool} {A B : Prop} (h : Br c A B) : (c = true ∧ A) ∨ (c = false ∧ B) := by
  cases c
  · exact .inr ⟨rfl, h⟩
  · exact .inl ⟨rfl, h⟩

theorem If.elim {c : Bool} {A : Prop} (h : If c A) : c = true ∧ A := by
  cases c
  · exact h.elim
  · exact ⟨rfl, h⟩

theorem tmod_in (k : IntKind) {a b : Int} (ha : k.min ≤ a ∧ a ≤ k.max) : k.min ≤ a.tmod b ∧ a.tmod b ≤ k.max := by
  have hz := in_min_max_zero k
  rcases Int.le_total 0 a with h | h
  · have h1 := Int.tmod_nonneg b h
    have h2 : a.tmod b ≤ a := by
      by_cases hb : b = 0
      · subst hb; simp
      · have h3 : (a.tmod b).natAbs ≤ a.natAbs := by
          rw [Int.natAbs_tmod]; exact Nat.mod_le _ _
        omega
    omega
  · have h1 : a.tmod b ≤ 0 := by
      have := Int.tmod_nonneg b (a := -a) (by omega)
      rw [Int.neg_tmod] at this; omega
    have h2 : a ≤ a.tmod b := by
      have h3 : (a.tmod b).natAbs ≤ a.natAbs := by
        rw [Int.natAbs_tmod]; exact Nat.mod_le _ _
      omega
    omega

theorem fdiv_in (k : IntKind) {a : Int} (n : Nat) (ha : k.min ≤ a ∧ a ≤ k.max) : k.min ≤ a.fdiv (2 ^ n) ∧ a.fdiv (2 ^ n) ≤ k.max := by
  have hz := in_min_max_zero k
  have hp : (0 : Int) < 2 ^ n := Int.pow_pos (by decide)
  rw [Int.fdiv_eq_ediv_of_nonneg _ (Int.le_of_lt hp)]
  have h1 : (1 : Int) ≤ 2 ^ n := hp
  rcases Int.le_total 0 a with h | h
  · have h2 := Int.ediv_nonneg h (Int.le_of_lt hp)
    have h3 := Int.ediv_le_self (2 ^ n) h
    omega
  · have h2 : a / 2 ^ n ≤ 0 := by
      have := Int.ediv_le_ediv hp h
      simpa using this
    have h3 : a ≤ a / 2 ^ n := by
      rw [Int.le_ediv_iff_mul_le hp]
      have h4 := Int.mul_le_mul_of_nonpos_left (a := a) h h1
      omega
    omega

theorem binInt_ok {op : BinOp} {k : IntKind} {a b : Int} {K : SV → Prop} (ha : k.min ≤ a ∧ a ≤ k.max) (h : binInt op k a b K) (t : TypeId) :
    ∃ v, K v ∧ ∀ (ρ : Names) (T : Nat → Prop) (w : World) (yk : IntKind), ((op = .shl ∨ op = .shr) ∨ k = yk) →
      ∃ x, (Go.binOp op t (.int k a) (.int yk b)).run P w = .ok x w ∧ rel ρ T w v x := by
  cases op
  case quo =>
    obtain ⟨hb, h⟩ := If.elim h
    refine ⟨_, h, fun ρ T w yk hk => ?_⟩
    obtain rfl : k = yk := by simpa using hk
    have hb' : b ≠ 0 := by simpa using hb
    refine ⟨_, by simp [Go.binOp, Op.intDiv, hb'], rfl, wrap_in _ _⟩
  case rem =>
    obtain ⟨hb, h⟩ := If.elim h
    refine ⟨_, h, fun ρ T w yk hk => ?_⟩
    obtain rfl : k = yk := by simpa using hk
    have hb' : b ≠ 0 := by simpa using hb
    refine ⟨_, by simp [Go.binOp, Op.intDiv, hb'], rfl, tmod_in k ha⟩
  case shl =>
    obtain ⟨hb, h⟩ := If.elim h
    refine ⟨_, h, fun ρ T w yk hk => ?_⟩
    have hb' : ¬ b < 0 := by simpa using hb
    refine ⟨_, by simp [Go.binOp, Op.shift, hb'], rfl, wrap_in _ _⟩
  case shr =>
    obtain ⟨hb, h⟩ := If.elim h
    refine ⟨_, h, fun ρ T w yk hk => ?_⟩
    have hb' : ¬ b < 0 := by simpa using hb
    refine ⟨_, by simp [Go.binOp, Op.shift, hb'], rfl, fdiv_in k _ ha⟩
  case and =>
    refine ⟨_, h, fun ρ T w yk hk => ?_⟩
    obtain rfl : k = yk := by simpa using hk
    exact ⟨_, by rw [show Go.binOp .and t (.int k a) (.int k b) = Op.intBits .and k a b from by simp [Go.binOp]]; rfl, rfl, wrap_in _ _⟩
  case or =>
    refine ⟨_, h, fun ρ T w yk hk => ?_⟩
    obtain rfl : k = yk := by simpa using hk
    exact ⟨_, by rw [show Go.binOp .or t (.int k a) (.int k b) = Op.intBits .or k a b from by simp [Go.binOp]]; rfl, rfl, wrap_in _ _⟩
  case xor =>
    refine ⟨_, h, fun ρ T w yk hk => ?_⟩
    obtain rfl : k = yk := by simpa using hk
    exact ⟨_, by rw [show Go.binOp .xor t (.int k a) (.int k b) = Op.intBits .xor k a b from by simp [Go.binOp]]; rfl, rfl, wrap_in _ _⟩
  case andNot =>
    refine ⟨_, h, fun ρ T w yk hk => ?_⟩
    obtain rfl : k = yk := by simpa using hk
    exact ⟨_, by rw [show Go.binOp .andNot t (.int k a) (.int k b) = Op.intBits .andNot k a b from by simp [Go.binOp]]; rfl, rfl, wrap_in _ _⟩
  all_goals
    refine ⟨_, h, fun ρ T w yk hk => ?_⟩
    obtain rfl : k = yk := by simpa using hk
    first
      | refine ⟨_, by simp [Go.binOp, Op.intArith], rfl, wrap_in _ _⟩
      | refine ⟨_, by simp [Go.binOp, Op.intCmp], rfl⟩

end Go.Se

/- Part 3: equality of values, part by part. -/
namespace Go.Se
variable {P : Program}

theorem relL_len {ρ : Names} {T : Nat → Prop} {w : World} : ∀ {l : List SV} {m : List Value}, relL ρ T w l m → l.length = m.length
  | [], m, h => by rw [h]; rfl
  | a :: l, m, ⟨v, r, h1, _, h3⟩ => by rw [h1]; simp [relL_len h3]

theorem relL_take {ρ : Names} {T : Nat → Prop} {w : World} : ∀ (n : Nat) {l : List SV} {m : List Value}, relL ρ T w l m → relL ρ T w (l.take n) (m.take n)
  | 0, _, _, _ => by simp [relL]
  | n + 1, [], m, h => by rw [h]; simp [relL]
  | n + 1, a :: l, m, ⟨v, r, h1, h2, h3⟩ => by rw [h1]; exact ⟨v, _, rfl, h2, relL_take n h3⟩

theorem relL_drop {ρ : Names} {T : Nat → Prop} {w : World} : ∀ (n : Nat) {l : List SV} {m : List Value}, relL ρ T w l m → relL ρ T w (l.drop n) (m.drop n)
  | 0, _, _, h => h
  | n + 1, [], m, h => by rw [h]; simp [relL]
  | n + 1, a :: l, m, ⟨v, r, h1, h2, h3⟩ => by rw [h1]; exact relL_drop n h3

theorem relL_cut {ρ : Names} {T : Nat → Prop} {w : World} (o n : Nat) {l : List SV} {m : List Value} (h : relL ρ T w l m) :
    relL ρ T w (cut l o n) ((m.drop o).take n) := relL_take n (relL_drop o h)

theorem relL_append {ρ : Names} {T : Nat → Prop} {w : World} : ∀ {l l' : List SV} {m m' : List Value}, relL ρ T w l m → relL ρ T w l' m' → relL ρ T w (l ++ l') (m ++ m')
  | [], _, m, _, h, h' => by rw [h]; exact h'
  | a :: l, _, m, _, ⟨v, r, h1, h2, h3⟩, h' => by rw [h1]; exact ⟨v, _, rfl, h2, relL_append h3 h'⟩

/-- A value by its cells, of a type. -/
def relV (ti : TI) (ρ : Names) (T : Nat → Prop) (w : World) (cs : List SV) (x : Value) : Prop :=
  (isAgg ti.kind = true ∧ ∃ a, x = .agg a ∧ relL ρ T w cs a.toList) ∨ (isAgg ti.kind = false ∧ ∃ v, cs = [v] ∧ rel ρ T w v x)

theorem part_ok {t : TypeId} {ti : TI} (ht : TIok P t ti) {ρ : Names} {T : Nat → Prop} {w : World} {cs : List SV} {a : Array Value} (h : relL ρ T w cs a.toList) (off : Nat)
    (h1 : isAgg ti.kind = true ∨ ∃ v, cut cs off ti.size = [v]) :
    ∃ x, (part t a off).run P w = .ok x w ∧ relV ti ρ T w (cut cs off ti.size) x := by
  unfold part
  rw [Sem.run_bind, ht.isAgg]
  cases hk : isAgg ti.kind with
  | true =>
    simp only [Result.andThen_ok, if_true, Sem.run_bind, ht.sizeOf, Sem.run_pure]
    refine ⟨_, rfl, .inl ⟨hk, _, rfl, ?_⟩⟩
    have := relL_cut off ti.size h
    rw [Array.toList_extract, List.extract_eq_take_drop, Nat.add_sub_cancel_left]
    exact this
  | false =>
    obtain h1 | ⟨v, hv⟩ := h1
    · rw [hk] at h1; cases h1
    · have hr := relL_cut off ti.size h
      rw [hv] at hr
      obtain ⟨x, r, h2, h3, h4⟩ := hr
      have hx : a[off]? = some x := by
        have h5 : ((a.toList.drop off).take ti.size)[0]? = some x := by rw [h2]; rfl
        rw [List.getElem?_take] at h5
        split at h5
        · rw [List.getElem?_drop] at h5
          simpa using h5
        · cases h5
      simp only [Result.andThen_ok, Bool.false_eq_true, if_false, hx]
      exact ⟨x, rfl, .inr ⟨hk, v, hv, h3⟩⟩

theorem eqSV_shape {tt : TypeId → Option TI} {d : Nat} {t : TypeId} {ti : TI} {xs ys : List SV} {b : Bool} (ht : tt t = some ti) (h : eqSV tt d t xs ys = some b) :
    isAgg ti.kind = true ∨ ((∃ v, xs = [v]) ∧ ∃ v, ys = [v]) := by
  cases d with
  | zero => cases h
  | succ d =>
    simp only [eqSV, ht] at h
    cases hk : ti.kind <;> simp only [hk] at h <;> first
      | (cases h; done)
      | (left; rfl)
      | (right; split at h <;> first | exact ⟨⟨_, rfl⟩, ⟨_, rfl⟩⟩ | cases h)

theorem kind_bool {t : TypeId} {ti : TI} (ht : TIok P t ti) (hk : ti.kind = .bool) : P.underlying t = some .bool := by
  obtain ⟨_, ⟨d, hd, h⟩, _⟩ := ht
  rw [hk] at h
  cases d <;> simp only [kindOf, Option.some.injEq, reduceCtorEq] at h
  · exact hd
  · rename_i fs
    cases hb : fs.toList.all (fun f => f.name != "_") <;> rw [hb] at h <;> simp at h

theorem kind_int {t : TypeId} {ti : TI} {k : IntKind} (ht : TIok P t ti) (hk : ti.kind = .int k) : P.underlying t = some (.int k) := by
  obtain ⟨_, ⟨d, hd, h⟩, _⟩ := ht
  rw [hk] at h
  cases d <;> simp only [kindOf, Option.some.injEq, reduceCtorEq] at h
  · injection h with h; rw [← h]; exact hd
  · rename_i fs
    cases hb : fs.toList.all (fun f => f.name != "_") <;> rw [hb] at h <;> simp at h

theorem kind_string {t : TypeId} {ti : TI} (ht : TIok P t ti) (hk : ti.kind = .string) : P.underlying t = some .string := by
  obtain ⟨_, ⟨d, hd, h⟩, _⟩ := ht
  rw [hk] at h
  cases d <;> simp only [kindOf, Option.some.injEq, reduceCtorEq] at h
  · exact hd
  · rename_i fs
    cases hb : fs.toList.all (fun f => f.name != "_") <;> rw [hb] at h <;> simp at h

theorem kind_array {t e : TypeId} {ti : TI} {n : Nat} (ht : TIok P t ti) (hk : ti.kind = .array n e) : P.underlying t = some (.array n e) := by
  obtain ⟨_, ⟨d, hd, h⟩, _⟩ := ht
  rw [hk] at h
  cases d <;> simp only [kindOf, Option.some.injEq, reduceCtorEq] at h
  · injection h with h1 h2; rw [← h1, ← h2]; exact hd
  · rename_i fs
    cases hb : fs.toList.all (fun f => f.name != "_") <;> rw [hb] at h <;> simp at h

theorem kind_slice {t e : TypeId} {ti : TI} (ht : TIok P t ti) (hk : ti.kind = .slice e) : P.underlying t = some (.slice e) := by
  obtain ⟨_, ⟨d, hd, h⟩, _⟩ := ht
  rw [hk] at h
  cases d <;> simp only [kindOf, Option.some.injEq, reduceCtorEq] at h
  · injection h with h1; rw [← h1]; exact hd
  · rename_i fs
    cases hb : fs.toList.all (fun f => f.name != "_") <;> rw [hb] at h <;> simp at h

theorem kind_struct {t : TypeId} {ti : TI} {fs : List (Nat × TypeId)} (ht : TIok P t ti) (hk : ti.kind = .struct fs) :
    ∃ gs : Array Field, P.underlying t = some (.struct gs) ∧ fs = gs.toList.map (fun f => (f.offset, f.type)) ∧ ∀ f ∈ gs.toList, f.name ≠ "_" := by
  obtain ⟨_, ⟨d, hd, h⟩, _⟩ := ht
  rw [hk] at h
  cases d <;> simp only [kindOf, Option.some.injEq, reduceCtorEq] at h
  rename_i gs
  cases hb : gs.toList.all (fun f => f.name != "_") with
  | false => rw [hb] at h; simp at h
  | true =>
    rw [hb] at h
    simp only [cond_true, Option.some.injEq, TK.struct.injEq] at h
    refine ⟨gs, hd, h.symm, fun f hf => ?_⟩
    have := List.all_eq_true.1 hb f hf
    simpa using this

/-- The array's loop, as a recursion. -/
def eqElemsM (E : Value → Value → Sem Bool) (e : TypeId) (n : Nat) (xs ys : Array Value) : List Nat → Sem Bool
  | [] => pure true
  | i :: l => do
    let a ← part e xs (i * n)
    let b ← part e ys (i * n)
    let r ← E a b
    if (!r) = true then pure false else eqElemsM E e n xs ys l

theorem run_equalIn_array (w : World) (d : Nat) (t e : TypeId) (len : Nat) (xs ys : Array Value) (n : Nat) (ht : P.underlying t = some (.array len e)) (hn : ∀ w, (sizeOf e).run P w = .ok n w) :
    (Op.equalIn (d + 1) t (.agg xs) (.agg ys)).run P w = (eqElemsM (Op.equalIn d e) e n xs ys (List.range' 0 len)).run P w := by
  have hu : ∀ w, (Go.underlying t).run P w = .ok (.array len e) w := fun w => by simp [Go.underlying, ht]
  simp only [Op.equalIn, Sem.run_bind, hu, Result.andThen_ok, hn, Std.Legacy.Range.forIn_eq_forIn_range', Std.Legacy.Range.size]
  rw [show (len - 0 + 1 - 1) / 1 = len by omega]
  generalize List.range' 0 len = l
  induction l generalizing w with
  | nil => simp [eqElemsM]
  | cons i l ih =>
    simp only [List.forIn_cons, eqElemsM, Sem.run_bind, Sem.run_ite]
    generalize (part e xs (i * n)).run P w = r1
    cases r1 with
    | ok a w1 =>
      simp only [Result.andThen_ok]
      generalize (part e ys (i * n)).run P w1 = r2
      cases r2 with
      | ok b w2 =>
        simp only [Result.andThen_ok]
        generalize (Op.equalIn d e a b).run P w2 = r3
        cases r3 with
        | ok r w3 =>
          cases r
          · simp only [Result.andThen_ok, Bool.not_false, if_true, Sem.run_pure]
          · simp only [Result.andThen_ok, Bool.not_true, Bool.false_eq_true, if_false, Sem.run_pure]
            exact ih w3
        | halt x w3 => simp [Result.andThen]
      | halt x w2 => simp [Result.andThen]
    | halt x w1 => simp [Result.andThen]

theorem eqFields_ok {tt : TypeId → Option TI} {E : TypeId → List SV → List SV → Option Bool} {d : Nat} (htt : ∀ t ti, tt t = some ti → TIok P t ti)
    {ρ : Names} {T : Nat → Prop} {w : World}
    (hsh : ∀ t ti xs ys b, tt t = some ti → E t xs ys = some b → isAgg ti.kind = true ∨ ((∃ v, xs = [v]) ∧ ∃ v, ys = [v]))
    (hE : ∀ t ti xs ys b x y, tt t = some ti → E t xs ys = some b → relV ti ρ T w xs x → relV ti ρ T w ys y → (Op.equalIn d t x y).run P w = .ok b w)
    {xs ys : List SV} {a c : Array Value} (hx : relL ρ T w xs a.toList) (hy : relL ρ T w ys c.toList) :
    ∀ (gs : List Field) (b : Bool), (∀ f ∈ gs, f.name ≠ "_") → eqFields tt E (gs.map fun f => (f.offset, f.type)) xs ys = some b →
      (Op.eqFields d a c gs).run P w = .ok b w
  | [], b, _, h => by simp only [List.map_nil, eqFields, Option.some.injEq] at h; subst h; rfl
  | f :: gs, b, hn, h => by
    simp only [List.map_cons, eqFields] at h
    split at h
    · cases h
    · rename_i ti ht
      split at h
      · cases h
      · rename_i r hr
        have hs := hsh _ _ _ _ _ ht hr
        obtain ⟨x, hx1, hx2⟩ := part_ok (htt _ _ ht) hx f.offset (hs.imp id (·.1))
        obtain ⟨y, hy1, hy2⟩ := part_ok (htt _ _ ht) hy f.offset (hs.imp id (·.2))
        have he := hE _ _ _ _ _ _ _ ht hr hx2 hy2
        simp only [Op.eqFields, hn f (by simp), ne_eq, not_false_eq_true, if_true, Sem.run_bind, hx1, Result.andThen_ok, hy1, he]
        have hlast : gs.map (fun f => (f.offset, f.type)) = [] → gs = [] := by cases gs <;> simp
        split at h
        · rename_i hnil
          obtain rfl : r = b := by simpa using h
          rw [hlast hnil]
          cases r <;> rfl
        · split at h
          · cases h
          · rename_i q hq
            cases h
            have ih := eqFields_ok htt hsh hE hx hy gs q (fun f hf => hn f (by simp [hf])) hq
            cases r
            · rfl
            · simp only [Bool.not_true, Bool.false_eq_true, if_false, Bool.true_and]; exact ih

theorem eqElems_ok {E : List SV → List SV → Option Bool} {F : Value → Value → Sem Bool} {e : TypeId} {te : TI} (hte : TIok P e te)
    {ρ : Names} {T : Nat → Prop} {w : World}
    (hsh : ∀ xs ys b, E xs ys = some b → isAgg te.kind = true ∨ ((∃ v, xs = [v]) ∧ ∃ v, ys = [v]))
    (hE : ∀ xs ys b x y, E xs ys = some b → relV te ρ T w xs x → relV te ρ T w ys y → (F x y).run P w = .ok b w)
    {xs ys : List SV} {a c : Array Value} (hx : relL ρ T w xs a.toList) (hy : relL ρ T w ys c.toList) :
    ∀ (n i : Nat) (b : Bool), eqElems E te.size n (xs.drop (i * te.size)) (ys.drop (i * te.size)) = some b →
      (eqElemsM F e te.size a c (List.range' i n)).run P w = .ok b w
  | 0, i, b, h => by simp only [eqElems, Option.some.injEq] at h; subst h; rfl
  | n + 1, i, b, h => by
    simp only [eqElems] at h
    split at h
    · cases h
    · rename_i r hr
      have hs := hsh _ _ _ hr
      obtain ⟨x, hx1, hx2⟩ := part_ok hte hx (i * te.size) (hs.imp id (·.1))
      obtain ⟨y, hy1, hy2⟩ := part_ok hte hy (i * te.size) (hs.imp id (·.2))
      have he := hE _ _ _ _ _ hr hx2 hy2
      simp only [List.range'_succ, eqElemsM, Sem.run_bind, hx1, Result.andThen_ok, hy1, he]
      split at h
      · obtain rfl : r = b := by simpa using h
        cases r <;> rfl
      · split at h
        · cases h
        · rename_i q hq
          cases h
          rw [List.drop_drop, List.drop_drop, show i * te.size + te.size = (i + 1) * te.size by rw [Nat.succ_mul]] at hq
          have ih := eqElems_ok hte hsh hE hx hy n (i + 1) q hq
          cases r
          · rfl
          · simp only [Bool.not_true, Bool.false_eq_true, if_false, Bool.true_and]; exact ih

theorem eqSV_ok {tt : TypeId → Option TI} (htt : ∀ t ti, tt t = some ti → TIok P t ti) {ρ : Names} {T : Nat → Prop} {w : World} :
    ∀ (d d' : Nat) (t : TypeId) (ti : TI) (xs ys : List SV) (b : Bool) (x y : Value), d ≤ d' → tt t = some ti → eqSV tt d t xs ys = some b →
      relV ti ρ T w xs x → relV ti ρ T w ys y → (Op.equalIn d' t x y).run P w = .ok b w
  | 0, _, _, _, _, _, _, _, _, _, _, h, _, _ => by cases h
  | d + 1, 0, _, _, _, _, _, _, _, hd, _, _, _, _ => by omega
  | d + 1, d' + 1, t, ti, xs, ys, b, x, y, hd, ht, h, hx, hy => by
    have hti := htt _ _ ht
    simp only [eqSV, ht] at h
    cases hk : ti.kind <;> simp only [hk] at h
    case bool =>
      simp only [relV, hk, isAgg, Bool.false_eq_true, false_and, false_or, true_and] at hx hy
      obtain ⟨v, rfl, hv⟩ := hx
      obtain ⟨u, rfl, hu⟩ := hy
      split at h
      · rename_i p q h1 h2
        simp only [List.cons.injEq, and_true] at h1 h2
        subst h1; subst h2
        cases hv; cases hu; cases h
        exact run_equalIn_bool' w d' t p q (kind_bool hti hk)
      · cases h
    case int k =>
      simp only [relV, hk, isAgg, Bool.false_eq_true, false_and, false_or, true_and] at hx hy
      obtain ⟨v, rfl, hv⟩ := hx
      obtain ⟨u, rfl, hu⟩ := hy
      split at h
      · rename_i i p j q h1 h2
        simp only [List.cons.injEq, and_true] at h1 h2
        subst h1; subst h2
        obtain ⟨rfl, -⟩ := hv
        obtain ⟨rfl, -⟩ := hu
        cases hjk : decide (i = j) with
        | false => rw [hjk] at h; cases h
        | true =>
          rw [hjk] at h
          cases h
          obtain rfl := of_decide_eq_true hjk
          exact run_equalIn_int w d' t i k p q (kind_int hti hk)
      · cases h
    case string =>
      simp only [relV, hk, isAgg, Bool.false_eq_true, false_and, false_or, true_and] at hx hy
      obtain ⟨v, rfl, hv⟩ := hx
      obtain ⟨u, rfl, hu⟩ := hy
      split at h
      · rename_i p q h1 h2
        simp only [List.cons.injEq, and_true] at h1 h2
        subst h1; subst h2
        obtain ⟨rfl, -⟩ := hv
        obtain ⟨rfl, -⟩ := hu
        cases h
        rw [run_equalIn_string w d' t p q (kind_string hti hk), beq_toListBytes]
      · cases h
    case struct fs =>
      simp only [relV, hk, isAgg, true_and, Bool.true_eq_false, false_and, or_false] at hx hy
      obtain ⟨a, rfl, hxa⟩ := hx
      obtain ⟨c, rfl, hyc⟩ := hy
      obtain ⟨gs, hgs, rfl, hname⟩ := kind_struct hti hk
      have hfo : P.fieldsOf t = gs := by simp [Program.fieldsOf, hgs]
      rw [run_equalIn_struct w d' t a c (by rw [hfo]; exact hgs) (hti.held _ hk).1, hfo]
      exact eqFields_ok htt (fun t ti xs ys b ht h => eqSV_shape ht h)
        (fun t ti xs ys b x y ht h hx hy => eqSV_ok htt d d' t ti xs ys b x y (by omega) ht h hx hy) hxa hyc _ b hname h
    case array n e =>
      simp only [relV, hk, isAgg, true_and, Bool.true_eq_false, false_and, or_false] at hx hy
      obtain ⟨a, rfl, hxa⟩ := hx
      obtain ⟨c, rfl, hyc⟩ := hy
      split at h
      · rename_i te hte
        cases n with
        | zero => cases h
        | succ n =>
        rw [run_equalIn_array w d' t e (n + 1) a c te.size (kind_array hti hk) (fun w => (htt _ _ hte).sizeOf)]
        exact eqElems_ok (htt _ _ hte) (fun xs ys b h => eqSV_shape hte h)
          (fun xs ys b x y h hx hy => eqSV_ok htt d d' e te xs ys b x y (by omega) hte h hx hy) hxa hyc (n + 1) 0 b (by simpa using h)
      · cases h
    all_goals cases h

/-- No part of a type that is compared is an interface. -/
theorem eqSV_guard {tt : TypeId → Option TI} (htt : ∀ t ti, tt t = some ti → TIok P t ti) :
    ∀ (d d' : Nat) (t : TypeId) (xs ys : List SV) (b : Bool), d ≤ d' → eqSV tt d t xs ys = some b → P.eqGuardType d' t = false
  | 0, _, _, _, _, _, _, h => by cases h
  | d + 1, 0, _, _, _, _, hd, _ => by omega
  | d + 1, d' + 1, t, xs, ys, b, hd, h => by
    simp only [eqSV] at h
    split at h
    · cases h
    · rename_i ti ht
      have hti := htt _ _ ht
      cases hk : ti.kind <;> simp only [hk] at h
      case bool => simp [Program.eqGuardType, kind_bool hti hk]
      case int k => simp [Program.eqGuardType, kind_int hti hk]
      case string => simp [Program.eqGuardType, kind_string hti hk]
      case struct fs =>
        obtain ⟨gs, hgs, rfl, hname⟩ := kind_struct hti hk
        simp only [Program.eqGuardType, hgs]
        rw [← Array.any_toList, List.any_eq_false]
        revert h
        generalize gs.toList = l
        intro h f hf
        simp only [Bool.and_eq_true, not_and, Bool.not_eq_true]
        intro _
        revert b
        induction l with
        | nil => cases hf
        | cons g l ih =>
          intro b h
          simp only [List.map_cons, eqFields] at h
          split at h
          · cases h
          · split at h
            · cases h
            · rename_i r hr
              rcases List.mem_cons.1 hf with rfl | hf
              · exact eqSV_guard htt d d' _ _ _ r (by omega) hr
              · split at h
                · rename_i hnil
                  cases l
                  · cases hf
                  · simp at hnil
                · split at h
                  · cases h
                  · rename_i q hq
                    exact ih hf q hq
      case array n e =>
        simp only [Program.eqGuardType, kind_array hti hk]
        split at h
        · rename_i te hte
          cases n with
          | zero => cases h
          | succ n =>
            simp only [eqElems] at h
            split at h
            · cases h
            · rename_i r hr
              exact eqSV_guard htt d d' _ _ _ r (by omega) hr
        · cases h
      all_goals cases h

end Go.Se

