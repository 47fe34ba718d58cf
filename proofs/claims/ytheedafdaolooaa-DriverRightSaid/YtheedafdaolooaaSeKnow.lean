/- Part 18: what is known of calls, put together. -/
import Derived.Test.YtheedafdaolooaaSeLaw
import Derived.Test.YtheedafdaolooaaSeLoop
import Derived.Laws.Externs
namespace Go.Se
variable {P : Program}

mutual
def ok : SV → Prop
  | .int k n => k.min ≤ n ∧ n ≤ k.max
  | .str s => s.size < 9223372036854775808
  | .rptr cs => okL cs
  | .agg cs => okL cs
  | .tup cs => okL cs
  | .arr _ _ len _ => len < 9223372036854775808
  | .ro len _ get => len < 9223372036854775808 ∧ ∀ i, i < len → okL (get i)
  | .iface _ x => ok x
  | _ => True
def okL : List SV → Prop
  | [] => True
  | a :: l => ok a ∧ okL l
end

def okB : SB → Prop
  | .cells _ cs => okL cs
  | .lst _ cs => okL cs
  | .row _ _ len g => ∀ i, i < len → okL (g i)

def okS : List (Option SB) → Prop
  | [] => True
  | some b :: l => okB b ∧ okS l
  | none :: l => okS l

section
variable {T : Nat → Prop} {w : World}
mutual
theorem rel_ok {ρ : Names} : ∀ (a : SV) (v : Value), rel ρ T w a v → ok a
  | .junk, _, _ => trivial
  | .int _ _, _, ⟨_, h⟩ => h
  | .bool _, _, _ => trivial
  | .str _, _, ⟨_, h⟩ => h
  | .nilp, _, _ => trivial
  | .ptr _ _, _, _ => trivial
  | .rptr cs, _, ⟨b, o, _, _, _, h⟩ => relAt_ok cs b o h
  | .fn _ _ _, _, _ => trivial
  | .nilfn, _, _ => trivial
  | .agg cs, _, ⟨_, _, h⟩ => relL_ok cs _ h
  | .tup cs, _, ⟨_, _, h⟩ => relL_ok cs _ h
  | .nils, _, _ => trivial
  | .arr _ _ _ _, _, ⟨_, h⟩ => h
  | .own _ _ _, _, _ => trivial
  | .ro len st g, _, ⟨_, _, _, h1, h2⟩ => ⟨h1, fun i hi => by
      obtain ⟨b, off, _, _, _, h⟩ := h2 (Nat.lt_of_le_of_lt (Nat.zero_le _) hi)
      exact relAt_ok (g i) _ _ (h i hi)⟩
  | .nilI, _, _ => trivial
  | .iface _ x, _, ⟨y, _, h⟩ => rel_ok x y h
theorem relL_ok {ρ : Names} : ∀ (l : List SV) (m : List Value), relL ρ T w l m → okL l
  | [], _, _ => trivial
  | a :: l, _, ⟨v, r, _, h, h'⟩ => ⟨rel_ok a v h, relL_ok l r h'⟩
theorem relAt_ok : ∀ (l : List SV) (b o : Nat), relAt T w l b o → okL l
  | [], _, _, _ => trivial
  | a :: l, b, o, ⟨⟨v, _, h⟩, h'⟩ => ⟨rel_ok a v h, relAt_ok l b (o + 1) h'⟩
end

theorem relB_ok {ρ : Names} {sb : SB} {b : Nat} (h : relB ρ T w sb b) : okB sb := by
  cases sb with
  | cells e cs => obtain ⟨_, _, h⟩ := h; exact relL_ok _ _ h
  | lst e cs => obtain ⟨_, _, m, _, _, h⟩ := h; exact relL_ok _ _ h
  | row e st len g => obtain ⟨_, _, _, h⟩ := h; exact fun i hi => relL_ok _ _ (h i hi)

theorem okS_of : ∀ (σ : List (Option SB)), (∀ sb, some sb ∈ σ → okB sb) → okS σ
  | [], _ => trivial
  | some b :: l, h => ⟨h b (List.mem_cons_self ..), okS_of l fun sb hs => h sb (List.mem_cons_of_mem _ hs)⟩
  | none :: l, h => okS_of l fun sb hs => h sb (List.mem_cons_of_mem _ hs)
end

theorem callOK_of_ok {k : FuncId} {xs : List SV} {σ : List (Option SB)} {v : SV} {σ' : List (Option SB)} {d : List Nat}
    (h : okL xs → okS σ → CallOK P k xs σ v σ' d) : CallOK P k xs σ v σ' d := by
  intro ρ T w vals h1 h2 h3 h4
  refine h (relL_ok _ _ h1) (okS_of _ fun sb hs => ?_) ρ T w vals h1 h2 h3 h4
  obtain ⟨p, hp, e⟩ := List.getElem_of_mem hs
  obtain ⟨sb', b, e1, _, _, e2⟩ := h2 p hp
  rw [List.getElem?_eq_getElem hp, e, Option.some.injEq, Option.some.injEq] at e1
  subst e1
  exact relB_ok e2

/-- What is known of calls. -/
structure Know (P : Program) where
  G : FuncId → List SV → List (Option SB) → KC → Prop
  ok : ∀ k xs σ, Sat P k xs σ (G k xs σ)
  dom : FuncId → Bool

def Know.none (P : Program) : Know P := ⟨fun _ _ _ _ => False, fun _ _ _ _ h => h.elim, fun _ => false⟩

def Know.add {P : Program} (B : Know P) (k : FuncId) (C : List SV → List (Option SB) → KC → Prop) (h : ∀ xs σ, Sat P k xs σ (C xs σ)) : Know P where
  G := fun j xs σ K => bif Nat.beq j k then C xs σ K else B.G j xs σ K
  ok := fun j xs σ => by
    cases hb : Nat.beq j k with
    | true => rw [Nat.eq_of_beq_eq_true hb]; simpa using h xs σ
    | false => simpa using B.ok j xs σ
  dom := fun j => Nat.beq j k || B.dom j

abbrev Out := Option (SV × List (Option SB) × List Nat)

/-- A call that comes to one end. -/
def one (c : List SV → List (Option SB) → Out) (xs : List SV) (σ : List (Option SB)) (K : KC) : Prop :=
  match c xs σ with
  | some (v, σ', d) => K v σ' d
  | none => False

theorem one_sat {k : FuncId} {c : List SV → List (Option SB) → Out} (h : ∀ xs σ v σ' d, c xs σ = some (v, σ', d) → CallOK P k xs σ v σ' d) (xs : List SV) (σ : List (Option SB)) : Sat P k xs σ (one c xs σ) := by
  intro K hK
  unfold one at hK
  split at hK
  · rename_i v σ' d hc
    exact ⟨v, σ', d, hK, h _ _ _ _ _ hc⟩
  · exact hK.elim

/-- A call that comes to one end, under a condition. -/
def oneIf (c : List SV → List (Option SB) → Option (Bool × SV × List (Option SB) × List Nat)) (xs : List SV) (σ : List (Option SB)) (K : KC) : Prop :=
  match c xs σ with
  | some (b, v, σ', d) => match b with
    | true => K v σ' d
    | false => False
  | none => False

theorem oneIf_sat {k : FuncId} {c : List SV → List (Option SB) → Option (Bool × SV × List (Option SB) × List Nat)} (h : ∀ xs σ v σ' d, c xs σ = some (true, v, σ', d) → CallOK P k xs σ v σ' d) (xs : List SV) (σ : List (Option SB)) : Sat P k xs σ (oneIf c xs σ) := by
  intro K hK
  unfold oneIf at hK
  split at hK
  · rename_i b v σ' d hc
    cases b
    · exact hK.elim
    · exact ⟨v, σ', d, hK, h _ _ _ _ _ hc⟩
  · exact hK.elim

/-- A program's table, told. -/
structure Tab (P : Program) where
  tt : TypeId → Option TI
  ft : FuncId → Option Func
  htt : ∀ t ti, tt t = some ti → TIok P t ti
  hft : ∀ k fn, ft k = some fn → P.funcs[k]? = some fn ∧ (fn.name == "runtime.NumGoroutine") = false
  mixed : P.follows .mixedOrders = true

def Tab.env {P : Program} (A : Tab P) (B : Know P) (unroll : Nat → Nat) (cut : Nat → Bool) : Env :=
  { tt := A.tt, ft := A.ft, callee := B.G, view := fun _ => false, unroll := unroll, cut := cut }

theorem callOK_of_calls (A : Tab P) (B : Know P) {R : List (Nat × Keep)} {unroll : Nat → Nat} {cut : Nat → Bool} {known : FuncId → Bool} {n : Nat} {k : FuncId} {xs : List SV} {σ : List (Option SB)} {v : SV} {σ' : List (Option SB)} {d : List Nat}
    (h : okL xs → okS σ → calls (A.env B unroll cut) (keepW R) known n k xs σ fun v' σ'' d' => v' = v ∧ σ'' = σ' ∧ d' = d) : CallOK P k xs σ v σ' d := by
  refine callOK_of_ok fun h1 h2 => ?_
  obtain ⟨v', σ'', d', ⟨rfl, rfl, rfl⟩, hc⟩ := calls_sat (env := A.env B unroll cut) ⟨A.htt, B.ok⟩ A.mixed (fun n => keepW_weaker n R) A.hft n k xs σ _ (h h1 h2)
  exact hc

/-- A call of what the model itself has. -/
theorem callOK_extern {k : FuncId} {fn : Func} {e : Array Value → Sem Value} (hf : P.funcs[k]? = some fn) (hname : (fn.name == "runtime.NumGoroutine") = false) (hb : fn.body.isNone = true)
    (hn : Extern.findNext fn = none) (he : Extern.find fn = some e) {xs : List SV} {v : SV}
    (h : ∀ (T : Nat → Prop) (w : World) (vals : Array Value), relL (fun _ => none) T w xs vals.toList → ∃ x, (e vals).run P w = .ok x w ∧ rel (fun _ => none) T w v x) : CallOK P k xs [] v [] [] := by
  intro ρ T w vals h1 _ h3 h4
  have hρ : ρ = fun _ => none := by
    funext p
    cases hp : ρ p with
    | none => rfl
    | some b => exact absurd (h4 p b hp).1 (Nat.not_lt_zero _)
  subst hρ
  obtain ⟨x, hx, hr⟩ := h T w vals h1
  refine .inr ⟨x, w, ?_, fun _ => none, T, {
    names := fun _ _ h => h
    only := fun _ _ h => by cases h
    len := Nat.le_refl _
    val := hr
    store := fun p sb h => by simp at h
    fresh := fun _ _ _ h => by cases h
    inj := fun _ _ _ _ _ h => by cases h
    dirty := fun _ h => by cases h
    grow := Grow.refl _ _
    tback := fun _ _ h => h
    below := fun _ _ h => by cases h
    tkeep := fun _ _ h => .inl h }⟩
  rw [run_callFunc_extern hf hname hb hn he, hx]
  rfl

/-! ### The carries of math/bits. -/
def add64 : List SV → List (Option SB) → KC → Prop
  | [.int .u64 a, .int .u64 b, .int .u64 c], [], K => If (decide (0 ≤ c) && decide (c ≤ 1)) (K (.tup [.int .u64 ((a + b + c) % 18446744073709551616), .int .u64 ((a + b + c) / 18446744073709551616)]) [] [])
  | _, _, _ => False
def sub64 : List SV → List (Option SB) → KC → Prop
  | [.int .u64 a, .int .u64 b, .int .u64 c], [], K => If (decide (0 ≤ c) && decide (c ≤ 1)) (K (.tup [.int .u64 ((a - b - c) % 18446744073709551616), .int .u64 (bif decide (a < b + c) then 1 else 0)]) [] [])
  | _, _, _ => False

theorem If.get {c : Bool} {A : Prop} (h : If c A) : c = true ∧ A := by
  cases c
  · exact h.elim
  · exact ⟨rfl, h⟩

theorem three_args {ρ : Names} {T : Nat → Prop} {w : World} {x y z : SV} {vals : Array Value} (h : relL ρ T w [x, y, z] vals.toList) : ∃ a b c, vals = #[a, b, c] ∧ rel ρ T w x a ∧ rel ρ T w y b ∧ rel ρ T w z c := by
  obtain ⟨a, r, h1, ha, b, s, h2, hb, c, t, h3, hc, h4⟩ := h
  cases h4
  subst h3; subst h2
  exact ⟨a, b, c, by rw [← Array.toList_inj, h1], ha, hb, hc⟩

def addF : Array Value → Sem Value := fun args => do
  let (x, y, c) ← Extern.MathBitsCarry.three "Add64" args
  pure (Extern.MathBitsCarry.pair ((x + y + c) % Extern.MathBitsCarry.m64) ((x + y + c) / Extern.MathBitsCarry.m64))
def subF : Array Value → Sem Value := fun args => do
  let (x, y, b) ← Extern.MathBitsCarry.three "Sub64" args
  pure (Extern.MathBitsCarry.pair ((x + Extern.MathBitsCarry.m64 - y - b) % Extern.MathBitsCarry.m64) (if x < y + b then 1 else 0))

theorem three_run {w : World} (s : String) {a b c : Int} (hc : c.toNat ≤ 1) : (Extern.MathBitsCarry.three s #[.int .u64 a, .int .u64 b, .int .u64 c]).run P w = .ok (a.toNat, b.toNat, c.toNat) w := by
  show (do
    let c := (← asInt (.int .u64 c)).toNat
    if c > 1 then unsupported (.noEntry ("extern/math/bits." ++ s ++ ": a carry that is neither 0 nor 1"))
    pure ((← asInt (.int .u64 a)).toNat, (← asInt (.int .u64 b)).toNat, c) : Sem (Nat × Nat × Nat)).run P w = _
  simp only [asInt, asIntOf, Sem.run_bind, Sem.run_pure, Result.andThen_ok]
  rw [if_neg (by omega)]
  rfl

theorem rel_pair {ρ : Names} {T : Nat → Prop} {w : World} {m n : Nat} {a b : Int} (ha : a = (m : Int)) (hb : b = (n : Int)) (hm : m < 18446744073709551616) (hn : n < 18446744073709551616) :
    rel ρ T w (.tup [.int .u64 a, .int .u64 b]) (Extern.MathBitsCarry.pair m n) := by
  subst ha; subst hb
  refine ⟨_, rfl, _, _, rfl, ⟨rfl, ?_⟩, _, _, rfl, ⟨rfl, ?_⟩, rfl⟩
  · show (0 : Int) ≤ _ ∧ _ ≤ (18446744073709551615 : Int)
    omega
  · show (0 : Int) ≤ _ ∧ _ ≤ (18446744073709551615 : Int)
    omega

theorem add64_sat {k : FuncId} {fn : Func} (hf : P.funcs[k]? = some fn) (hname : (fn.name == "runtime.NumGoroutine") = false) (hb : fn.body.isNone = true)
    (hn : Extern.findNext fn = none) (he : Extern.find fn = some addF) (xs : List SV) (σ : List (Option SB)) : Sat P k xs σ (add64 xs σ) := by
  intro K hK
  unfold add64 at hK
  split at hK
  · rename_i a b c
    obtain ⟨hc, hK⟩ := If.get hK
    refine ⟨_, _, _, hK, callOK_extern hf hname hb hn he fun T w vals hv => ?_⟩
    obtain ⟨_, _, _, rfl, ⟨rfl, ha⟩, ⟨rfl, hb⟩, ⟨rfl, hc'⟩⟩ := three_args hv
    have ha' : 0 ≤ a ∧ a ≤ 18446744073709551615 := ha
    have hb' : 0 ≤ b ∧ b ≤ 18446744073709551615 := hb
    simp only [Bool.and_eq_true, decide_eq_true_eq] at hc
    refine ⟨_, by rw [addF, Sem.run_bind, three_run _ (by omega)]; rfl, rel_pair ?_ ?_ ?_ ?_⟩ <;> unfold Extern.MathBitsCarry.m64 <;> omega
  · exact hK.elim

theorem sub64_sat {k : FuncId} {fn : Func} (hf : P.funcs[k]? = some fn) (hname : (fn.name == "runtime.NumGoroutine") = false) (hb : fn.body.isNone = true)
    (hn : Extern.findNext fn = none) (he : Extern.find fn = some subF) (xs : List SV) (σ : List (Option SB)) : Sat P k xs σ (sub64 xs σ) := by
  intro K hK
  unfold sub64 at hK
  split at hK
  · rename_i a b c
    obtain ⟨hc, hK⟩ := If.get hK
    refine ⟨_, _, _, hK, callOK_extern hf hname hb hn he fun T w vals hv => ?_⟩
    obtain ⟨_, _, _, rfl, ⟨rfl, ha⟩, ⟨rfl, hb⟩, ⟨rfl, hc'⟩⟩ := three_args hv
    have ha' : 0 ≤ a ∧ a ≤ 18446744073709551615 := ha
    have hb' : 0 ≤ b ∧ b ≤ 18446744073709551615 := hb
    simp only [Bool.and_eq_true, decide_eq_true_eq] at hc
    refine ⟨_, by rw [subF, Sem.run_bind, three_run _ (by omega)]; rfl, rel_pair ?_ ?_ ?_ ?_⟩
    · unfold Extern.MathBitsCarry.m64; omega
    · by_cases h : a < b + c
      · rw [if_pos (by omega), decide_eq_true h]; rfl
      · rw [if_neg (by omega), decide_eq_false h]; rfl
    · unfold Extern.MathBitsCarry.m64; omega
    · split <;> omega
  · exact hK.elim
end Go.Se
