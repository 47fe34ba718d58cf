/- Controls, and their runs: plain. -/
import Derived.Test.YtjlmofhokbnloaaDoorSeStr
import GoSem.Extern.AbiNoEscape
namespace Go.Se
/-- A control. -/
structure Ct where
  t : Int
  b : Int
  c : Int
  s : Int
  g : Int
  a : Bool
  r : Bool
deriving DecidableEq
def ctC (x : Ct) : List SV := [.int .i64 x.t, .int .i64 x.b, .int .i64 x.c, .int .i64 x.s, .int .i64 x.g, .bool x.a, .bool x.r]
def ctG (X : Nat → Ct) : Nat → List SV := fun i => ctC (X i)
/-- Is a control one that may be? -/
def okP (x : Ct) : Prop := 0 ≤ x.t ∧ x.t ≤ 255 ∧ 0 ≤ x.b ∧ x.b ≤ 255 ∧ 0 ≤ x.c ∧ x.c ≤ 255 ∧ -127 ≤ x.s ∧ x.s ≤ 127 ∧ -1 ≤ x.g ∧ x.g ≤ 8
instance (x : Ct) : Decidable (okP x) := by unfold okP; infer_instance
def rightV (x : Ct) : Int := bif decide (okP x) then 0 else 40
theorem right_t {x : Ct} (h : okP x) : rightV x = 0 := by unfold rightV; rw [decide_eq_true h]; rfl
theorem right_f {x : Ct} (h : ¬ okP x) : rightV x = 40 := by unfold rightV; rw [decide_eq_false h]; rfl
theorem right_law {x : Ct} {K : KC} (hK : K (.int .i64 (rightV x)) [] []) :
    (Br (decide (0 ≤ if x.c < if x.b < x.t then x.b else x.t then x.c else if x.b < x.t then x.b else x.t)) (Br (!decide ((if x.c < if x.b < x.t then x.b else x.t then x.c else if x.b < x.t then x.b else x.t) ≤ 255)) (K (SV.int IntKind.i64 40) [] []) (Br (decide ((if x.c > if x.b > x.t then x.b else x.t then x.c else if x.b > x.t then x.b else x.t) > 255)) (K (SV.int IntKind.i64 40) [] []) (Br (decide (-127 ≤ x.s)) (Br (!decide (x.s ≤ 127)) (K (SV.int IntKind.i64 40) [] []) (Br (decide (-1 ≤ x.g)) (Br (!decide (x.g ≤ 8)) (K (SV.int IntKind.i64 40) [] []) (K (SV.int IntKind.i64 0) [] [])) (K (SV.int IntKind.i64 40) [] []))) (K (SV.int IntKind.i64 40) [] [])))) (K (SV.int IntKind.i64 40) [] [])) := by
  have bad : ¬ okP x → K (SV.int IntKind.i64 40) [] [] := fun h => by rw [right_f h] at hK; exact hK
  refine Br.of (fun c1 => Br.of (fun c2 => bad ?_) fun c2 => Br.of (fun c3 => bad ?_) fun c3 => Br.of (fun c4 => Br.of (fun c5 => bad ?_) fun c5 => Br.of (fun c6 => Br.of (fun c7 => bad ?_) fun c7 => ?_) fun c6 => bad ?_) fun c4 => bad ?_) fun c1 => bad ?_
  all_goals simp only [Bool.not_eq_true', Bool.not_eq_false', decide_eq_true_eq, decide_eq_false_iff_not] at *
  case refine_5 =>
    rw [right_t (x := x) (by unfold okP; omega)] at hK; exact hK
  all_goals unfold okP; omega
theorem rright_law {x : Ct} {K : KC} (hK : K (.int .i64 (rightV x)) [] []) :
    (Br (decide (x.t ≥ 0)) (Br (decide (x.t ≤ 255)) (Br (decide (x.b ≥ 0)) (Br (decide (x.b ≤ 255)) (Br (decide (x.c ≥ 0)) (Br (decide (x.c ≤ 255)) (Br (decide (x.s ≥ -127)) (Br (decide (x.s ≤ 127)) (Br (decide (x.g ≥ -1)) (Br (decide (x.g ≤ 8)) (K (SV.int IntKind.i64 0) [] []) (K (SV.int IntKind.i64 40) [] [])) (K (SV.int IntKind.i64 40) [] [])) (K (SV.int IntKind.i64 40) [] [])) (K (SV.int IntKind.i64 40) [] [])) (K (SV.int IntKind.i64 40) [] [])) (K (SV.int IntKind.i64 40) [] [])) (K (SV.int IntKind.i64 40) [] [])) (K (SV.int IntKind.i64 40) [] [])) (K (SV.int IntKind.i64 40) [] [])) (K (SV.int IntKind.i64 40) [] [])) := by
  have bad : ¬ okP x → K (SV.int IntKind.i64 40) [] [] := fun h => by rw [right_f h] at hK; exact hK
  refine Br.of (fun c1 => Br.of (fun c2 => Br.of (fun c3 => Br.of (fun c4 => Br.of (fun c5 => Br.of (fun c6 => Br.of (fun c7 => Br.of (fun c8 => Br.of (fun c9 => Br.of (fun c10 => ?_) ?_) ?_) ?_) ?_) ?_) ?_) ?_) ?_) ?_) ?_
  case refine_1 =>
    have := of_decide_eq_true c1; have := of_decide_eq_true c2; have := of_decide_eq_true c3; have := of_decide_eq_true c4; have := of_decide_eq_true c5
    have := of_decide_eq_true c6; have := of_decide_eq_true c7; have := of_decide_eq_true c8; have := of_decide_eq_true c9; have := of_decide_eq_true c10
    rw [right_t (x := x) (by unfold okP; omega)] at hK; exact hK
  all_goals exact fun e => bad (by have := of_decide_eq_false e; unfold okP; omega)
def eqCt (x y : Ct) : Bool := x.t == y.t && (x.b == y.b && (x.c == y.c && (x.s == y.s && (x.g == y.g && (x.a == y.a && x.r == y.r)))))
theorem eqCt_iff {x y : Ct} : eqCt x y = true ↔ x = y := by
  obtain ⟨a1, a2, a3, a4, a5, a6, a7⟩ := x
  obtain ⟨b1, b2, b3, b4, b5, b6, b7⟩ := y
  simp [eqCt]
/-- The first, from one on, of which something is so; their number: none. -/
def firstIx (p : Nat → Bool) : Nat → Nat → Nat
  | 0, i => i
  | f + 1, i => bif p i then i else firstIx p f (i + 1)
theorem firstIx_hit {p : Nat → Bool} {f i : Nat} (h : p i = true) : firstIx p (f + 1) i = i := by unfold firstIx; rw [h]; rfl
theorem firstIx_miss {p : Nat → Bool} {f i : Nat} (h : p i = false) : firstIx p (f + 1) i = firstIx p f (i + 1) := by
  conv => lhs; unfold firstIx
  rw [h]; rfl
theorem firstIx_le {p : Nat → Bool} : ∀ (f i : Nat), i ≤ firstIx p f i ∧ firstIx p f i ≤ i + f
  | 0, i => ⟨Nat.le_refl _, Nat.le_refl _⟩
  | f + 1, i => by
    unfold firstIx
    have := firstIx_le (p := p) f (i + 1)
    cases p i <;> simp only [cond_true, cond_false] <;> omega
/-- As a number; none: -1. -/
def ixFrom (p : Nat → Bool) (n i : Nat) : Int := bif decide (firstIx p (n - i) i < n) then (firstIx p (n - i) i : Int) else -1
theorem ix_step {p : Nat → Bool} {n i : Nat} (hi : i < n) {Q : Int → Prop} (h : Q (ixFrom p n i)) : (p i = true → Q i) ∧ (p i = false → Q (ixFrom p n (i + 1))) := by
  unfold ixFrom at h ⊢
  rw [show n - i = (n - (i + 1)) + 1 by omega] at h
  constructor
  · intro hp
    rw [firstIx_hit hp, decide_eq_true hi] at h; exact h
  · intro hp
    rw [firstIx_miss hp] at h; exact h
theorem ix_end {p : Nat → Bool} {n : Nat} : ixFrom p n n = -1 := by
  unfold ixFrom
  rw [Nat.sub_self]
  show (bif decide (n < n) then (n : Int) else -1) = -1
  rw [decide_eq_false (Nat.lt_irrefl _)]; rfl
/-- A row of bytes. -/
def tG (l : List Int) : Nat → List SV := fun i => [.int .u8 (l.getD i 0)]
theorem strG_tG (s : ByteArray) : strG s = tG (listOf s) := by
  funext i
  unfold strG tG
  rw [list_getD]
theorem catR_tG (l m : List Int) : catR l.length (tG l) (tG m) = tG (l ++ m) := by
  funext i
  unfold catR tG
  by_cases h : i < l.length
  · rw [show i.blt l.length = true by simpa [Nat.blt_eq] using h, cond_true, List.getD_eq_getElem?_getD, List.getD_eq_getElem?_getD, List.getElem?_append_left h]
  · rw [show i.blt l.length = false by rw [← Bool.not_eq_true]; simpa [Nat.blt_eq] using h, cond_false, List.getD_eq_getElem?_getD, List.getD_eq_getElem?_getD, List.getElem?_append_right (Nat.not_lt.1 h)]
end Go.Se

/- A function of the run time that gives back what it is given. -/
namespace Go.Se
variable {P : Program}
theorem callOK_same {k : FuncId} {fn : Func} (hf : P.funcs[k]? = some fn) (hname : (fn.name == "runtime.NumGoroutine") = false) (hb : fn.body.isNone = true)
    (hn : Extern.findNext fn = none) (he : Extern.find fn = some Extern.AbiNoEscape.same) (x : SV) (σ : List (Option SB)) : CallOK P k [x] σ x σ [] := by
  intro ρ T w vals h1 h2 h3 h4
  obtain ⟨a, r, hv, ha, hr⟩ := h1
  cases hr
  obtain rfl : vals = #[a] := by rw [← Array.toList_inj, hv]
  refine .inr ⟨a, w, ?_, ρ, T, {
    names := fun _ _ h => h
    only := fun p b h => (h4 p b h).1
    len := Nat.le_refl _
    val := ha
    store := fun p sb h => ?_
    fresh := fun p b hp h => absurd (h4 p b h).1 (Nat.not_lt.2 hp)
    inj := fun p q b hp _ h _ => absurd (h4 p b h).1 (Nat.not_lt.2 hp)
    dirty := fun _ h => by cases h
    grow := Grow.refl _ _
    tback := fun _ _ h => h
    below := fun p b h => (h4 p b h).2
    tkeep := fun _ _ h => .inl h }⟩
  · rw [run_callFunc_extern hf hname hb hn he]
    rfl
  · have hp : p < σ.length := by
      refine Nat.not_le.1 fun hh => ?_
      rw [List.getElem?_eq_none hh] at h; cases h
    obtain ⟨sb', b, e, hb', hT, hrel⟩ := h2 p hp
    rw [e] at h; cases h
    exact ⟨b, hb', hT, hrel⟩
def cEsc : List SV → List (Option SB) → Out
  | [.ptr i o], σ => some (.ptr i o, σ, [])
  | _, _ => none
theorem esc_sat {k : FuncId} {fn : Func} (hf : P.funcs[k]? = some fn) (hname : (fn.name == "runtime.NumGoroutine") = false) (hb : fn.body.isNone = true)
    (hn : Extern.findNext fn = none) (he : Extern.find fn = some Extern.AbiNoEscape.same) (xs : List SV) (σ : List (Option SB)) : Sat P k xs σ (one cEsc xs σ) := by
  refine one_sat (fun xs σ v σ' d h => ?_) xs σ
  unfold cEsc at h
  split at h
  · cases h; exact callOK_same hf hname hb hn he _ _
  · cases h
end Go.Se

/- Controls as a text: plain. -/
namespace Go.Se
theorem list_app (a b : ByteArray) : listOf (a ++ b) = listOf a ++ listOf b := by
  unfold listOf
  simp
/-- How long the run is that begins here. -/
def runK (Y : Nat → Ct) (m : Nat) : Nat := firstIx (fun i => !(eqCt (Y i) (Y 0))) m 0
def rnN (X : Nat → Ct) (n p : Nat) : Nat := runK (fun i => X (i + p)) (n - p)
theorem eqCt_self (x : Ct) : eqCt x x = true := eqCt_iff.2 rfl
theorem runK_le {Y : Nat → Ct} {m : Nat} : runK Y m ≤ m := by
  have := (firstIx_le (p := fun i => !(eqCt (Y i) (Y 0))) m 0).2
  unfold runK; omega
theorem runK_pos {Y : Nat → Ct} {m : Nat} (h : 0 < m) : 1 ≤ runK Y m := by
  unfold runK
  rw [show m = (m - 1) + 1 by omega, firstIx_miss (by rw [eqCt_self]; rfl)]
  exact (firstIx_le _ _).1
theorem rnN_le {X : Nat → Ct} {n p : Nat} : rnN X n p ≤ n - p := runK_le
theorem rnN_pos {X : Nat → Ct} {n p : Nat} (h : p < n) : 1 ≤ rnN X n p := runK_pos (by omega)
def sp (l : List Int) : List Int := 32 :: l
def flagT (b : Bool) (l : List Int) : List Int := bif b then l else []
/-- A run, as a line. -/
def rnT (k : Int) (c : Ct) : List Int :=
  [100, 111] ++ sp (wholeL k) ++ sp (wholeL c.t) ++ sp (wholeL c.b) ++ sp (wholeL c.c) ++ sp (wholeL c.s) ++ sp (wholeL c.g) ++ flagT c.a [32, 97, 117, 116, 111] ++ flagT c.r [32, 114, 101, 115, 101, 116] ++ [10]
def bodyT (X : Nat → Ct) (n : Nat) : Nat → Nat → List Int
  | 0, _ => []
  | f + 1, p => bif decide (p < n) then rnT (rnN X n p) (X p) ++ bodyT X n f (p + rnN X n p) else []
theorem bodyT_step {X : Nat → Ct} {n f p : Nat} (h : p < n) : bodyT X n (f + 1) p = rnT (rnN X n p) (X p) ++ bodyT X n f (p + rnN X n p) := by
  conv => lhs; unfold bodyT
  rw [decide_eq_true h]; rfl
theorem bodyT_end {X : Nat → Ct} {n : Nat} : ∀ {f p : Nat}, n ≤ p → bodyT X n f p = []
  | 0, _, _ => rfl
  | f + 1, p, h => by unfold bodyT; rw [decide_eq_false (by omega)]; rfl
theorem bodyT_fuel {X : Nat → Ct} {n : Nat} : ∀ {f g p : Nat}, n ≤ p + f → n ≤ p + g → bodyT X n f p = bodyT X n g p
  | 0, g, p, h1, _ => by rw [bodyT_end (f := g) (by omega)]; rfl
  | f + 1, 0, p, _, h2 => by rw [bodyT_end (f := f + 1) (by omega)]; rfl
  | f + 1, g + 1, p, h1, h2 => by
    by_cases h : p < n
    · have := rnN_pos (X := X) h
      rw [bodyT_step h, bodyT_step h, bodyT_fuel (f := f) (g := g) (p := p + rnN X n p) (by omega) (by omega)]
    · rw [bodyT_end (by omega), bodyT_end (by omega)]
def textS (X : Nat → Ct) (n p : Nat) : List Int := bodyT X n (n - p) p
theorem textS_step {X : Nat → Ct} {n p : Nat} (h : p < n) : textS X n p = rnT (rnN X n p) (X p) ++ textS X n (p + rnN X n p) := by
  have h1 := rnN_pos (X := X) h
  have h2 := rnN_le (X := X) (n := n) (p := p)
  unfold textS
  rw [show n - p = (n - p - 1) + 1 by omega, bodyT_step h, bodyT_fuel (f := n - p - 1) (g := n - (p + rnN X n p)) (p := p + rnN X n p) (by omega) (by omega)]
theorem textS_end {X : Nat → Ct} {n p : Nat} (h : n ≤ p) : textS X n p = [] := bodyT_end h
theorem wholeL_len (n : Int) : (wholeL n).length ≤ 21 := by
  unfold wholeL signL
  rw [List.length_append]
  have := digL10_length (absI n) 1
  cases decide (n < 0) <;> simp <;> omega
theorem rnT_len (k : Int) (c : Ct) : (rnT k c).length ≤ 160 := by
  unfold rnT sp flagT
  have h1 := wholeL_len k; have h2 := wholeL_len c.t; have h3 := wholeL_len c.b; have h4 := wholeL_len c.c; have h5 := wholeL_len c.s; have h6 := wholeL_len c.g
  cases c.a <;> cases c.r <;> simp <;> omega
/-- Controls' text. -/
def printT (X : Nat → Ct) (n : Nat) : List Int := [115, 99, 114, 105, 112, 116, 10] ++ textS X n 0 ++ [101, 110, 100, 10]
/-- Is each of so many a control that may be? -/
def badIx (X : Nat → Ct) (n : Nat) : Bool := decide (ixFrom (fun i => rightV (X i) != 0) n 0 ≥ 0)
def printE (X : Nat → Ct) (n : Nat) : Int := bif decide (n > 16777216) then 42 else bif badIx X n then 40 else 0
def printR (X : Nat → Ct) (n : Nat) : List Int := bif printE X n == 0 then printT X n else []
end Go.Se
namespace Go.Se
/-- The first range over a function in a piece of code. -/
def findRF : Code → Option Code
  | .rangeFunc f p a b => some (.rangeFunc f p a b)
  | .seq a b => match findRF a with
    | some c => some c
    | none => findRF b
  | .block _ a => findRF a
  | .loop a => findRF a
  | .scope a => findRF a
  | .cond _ a b => match findRF a with
    | some c => some c
    | none => findRF b
  | _ => none
/-- Its record, where these temporaries are told. -/
def recL (fn : Func) (nt : Nat) (l : Tmps) : SB :=
  match findRF (bodyOf fn) with
  | some (.rangeFunc _ ps a b) => .loop (someT l (tmpsOf a ++ tmpsOf b)) nt ps.toList a b .ready
  | _ => .cells 0 []
end Go.Se
namespace Go.Se
theorem wholeL_inByte (n : Int) : inByte (wholeL n) := fun x hx => by
  unfold wholeL signL at hx
  rcases List.mem_append.1 hx with hx | hx
  · cases h : decide (n < 0) with
    | true => rw [h] at hx; have := List.mem_singleton.1 hx; omega
    | false => rw [h] at hx; cases hx
  · have := digL10_digits (absI_nonneg n) x hx; omega
theorem list_sp (n : Int) : listOf ((⟨#[32]⟩ : ByteArray) ++ bytesOf (wholeL n)) = sp (wholeL n) := by
  rw [list_app, list_bytes (wholeL_inByte n)]; rfl
theorem sp_size (n : Int) : ((⟨#[32]⟩ : ByteArray) ++ bytesOf (wholeL n)).size ≤ 22 := by
  rw [ByteArray.size_append, bytes_size]
  have := wholeL_len n
  show 1 + _ ≤ 22; omega
/-- Steps of writing. -/
theorem wstep0 {l : List Int} {z : Nat} {P : List Int → Prop} (hl : l.length + z ≤ 1099511627776) (h : P l) :
    ∃ e : List Int, ((l.length = e.length ∧ l.length = e.length ∧ tG l = tG e) ∧ e.length + z ≤ 1099511627776) ∧ P e := ⟨l, ⟨⟨rfl, rfl, rfl⟩, hl⟩, h⟩
theorem wstep {l : List Int} {w : ByteArray} {z B : Nat} {P : List Int → Prop} (hl : l.length ≤ B) (hw : w.size ≤ 22) (hz : z ≤ 22) (hB : B + 44 ≤ 1099511627776) (h : (l ++ listOf w).length ≤ B + 22 → P (l ++ listOf w)) :
    ∃ e : List Int, (((l ++ listOf w).length = e.length ∧ (l ++ listOf w).length = e.length ∧ tG (l ++ listOf w) = tG e) ∧ e.length + z ≤ 1099511627776) ∧ P e :=
  have : (l ++ listOf w).length ≤ B + 22 := by rw [List.length_append, list_length]; omega
  ⟨l ++ listOf w, ⟨⟨rfl, rfl, rfl⟩, by omega⟩, h this⟩
theorem numstep {l : List Int} {w : ByteArray} {x : Int} {B : Nat} {P : List Int → Prop} (hl : l.length ≤ B) (hw : w.size ≤ 22) (hB : B + 44 ≤ 1099511627776) (h : (l ++ listOf w).length ≤ B + 22 → P (l ++ listOf w)) :
    Br (decide (1 + (bytesOf (wholeL x)).size < 9223372036854775808)) (∃ e : List Int, (((l ++ listOf w).length = e.length ∧ (l ++ listOf w).length = e.length ∧ tG (l ++ listOf w) = tG e) ∧ e.length + ((⟨#[32]⟩ : ByteArray) ++ bytesOf (wholeL x)).size ≤ 1099511627776) ∧ P e) False :=
  Br.of (fun _ => wstep hl hw (sp_size x) hB h) fun f => absurd f (by
    have := wholeL_len x
    rw [bytes_size, decide_eq_false_iff_not]; omega)
end Go.Se
namespace Go.Se
theorem bodyT_len {X : Nat → Ct} {n : Nat} : ∀ (f p : Nat), (bodyT X n f p).length ≤ 160 * (n - p)
  | 0, _ => Nat.zero_le _
  | f + 1, p => by
    by_cases h : p < n
    · have h1 := rnN_pos (X := X) h
      have h2 := bodyT_len (X := X) (n := n) f (p + rnN X n p)
      have h3 := rnT_len (rnN X n p) (X p)
      rw [bodyT_step h, List.length_append]
      omega
    · rw [bodyT_end (by omega)]; exact Nat.zero_le _
theorem textS_len {X : Nat → Ct} {n : Nat} : (textS X n 0).length ≤ 160 * n := bodyT_len _ _
theorem rowB_tG (L : List Int) : rowB L.length (tG L) = L := by
  unfold rowB tG
  refine List.ext_getElem (by simp) fun i h1 h2 => ?_
  simp [byteN, List.getD_eq_getElem?_getD, List.getElem?_eq_getElem h2]
end Go.Se
namespace Go.Se
/-! A line's pieces. -/
def autoW : ByteArray := ⟨#[97, 117, 116, 111]⟩
def resetW : ByteArray := ⟨#[114, 101, 115, 101, 116]⟩
def pw (p : List (List Int)) (i : Nat) : ByteArray := bytesOf (p.getD i [])
def tk1 (b : Bk) (p : List (List Int)) : Bk := intBk b (listOf (pw p 0)) 1 16777216
def tk2 (b : Bk) (p : List (List Int)) : Bk := intBk (tk1 b p) (listOf (pw p 1)) 0 255
def tk3 (b : Bk) (p : List (List Int)) : Bk := intBk (tk2 b p) (listOf (pw p 2)) 0 255
def tk4 (b : Bk) (p : List (List Int)) : Bk := intBk (tk3 b p) (listOf (pw p 3)) 0 255
def tk5 (b : Bk) (p : List (List Int)) : Bk := intBk (tk4 b p) (listOf (pw p 4)) (-127) 127
def tk6 (b : Bk) (p : List (List Int)) : Bk := intBk (tk5 b p) (listOf (pw p 5)) (-1) 8
def tkO (b : Bk) (p : List (List Int)) : Int := oneV (tk6 b p) (pw p 6) [autoW, resetW]
def tkA (b : Bk) (p : List (List Int)) (n : Nat) : Bool := bif n == 8 then true else bif n == 7 then !(tkO b p == 1) else false
def tkR (b : Bk) (p : List (List Int)) (n : Nat) : Bool := bif n == 8 then true else bif n == 7 then tkO b p == 1 else false
/-- How many controls a line tells of; which; the book behind it. -/
def tkN (b : Bk) (p : List (List Int)) : Int := intV b (listOf (pw p 0)) 1 16777216
def tkC (b : Bk) (p : List (List Int)) (n : Nat) : Ct :=
  ⟨intV (tk1 b p) (listOf (pw p 1)) 0 255, intV (tk2 b p) (listOf (pw p 2)) 0 255, intV (tk3 b p) (listOf (pw p 3)) 0 255, intV (tk4 b p) (listOf (pw p 4)) (-127) 127, intV (tk5 b p) (listOf (pw p 5)) (-1) 8, tkA b p n, tkR b p n⟩
def tkB7 (b : Bk) (p : List (List Int)) : Bk := oneBk (tk6 b p) (pw p 6) [autoW, resetW]
def tkB (b : Bk) (p : List (List Int)) (n : Nat) : Bk :=
  bif n == 8 then oneBk (oneBk (tkB7 b p) (pw p 6) [autoW]) (pw p 7) [resetW] else bif n == 7 then tkB7 b p else tk6 b p
end Go.Se
namespace Go.Se
/-- A row whose first m elements are one control. -/
def rpG (x : Ct) (m : Nat) : Nat → List SV := fun i => bif decide (i < m) then ctC x else [.int .i64 0, .int .i64 0, .int .i64 0, .int .i64 0, .int .i64 0, .bool false, .bool false]
theorem rpG_lt {x : Ct} {m i : Nat} (h : i < m) : rpG x m i = ctC x := by unfold rpG; rw [decide_eq_true h]; rfl
theorem over_t {off n i : Nat} {h g : Nat → List SV} (h1 : off ≤ i) (h2 : i < off + n) : overR off n h g i = h (i - off) := by
  unfold overR
  rw [Nat.ble_eq_true_of_le h1, show i.blt (off + n) = true by simpa [Nat.blt_eq] using h2]; rfl
theorem over_f {off n i : Nat} {h g : Nat → List SV} (h1 : ¬ (off ≤ i ∧ i < off + n)) : overR off n h g i = g i := by
  unfold overR
  cases a : Nat.ble off i && i.blt (off + n) with
  | false => rfl
  | true =>
    rw [Bool.and_eq_true] at a
    exact absurd ⟨Nat.le_of_ble_eq_true a.1, by simpa [Nat.blt_eq] using a.2⟩ h1
theorem rpG_first (x : Ct) : overR 0 1 (fun i => cut (ctC x) (i * 7) 7) (fun _ => [.int .i64 0, .int .i64 0, .int .i64 0, .int .i64 0, .int .i64 0, .bool false, .bool false]) = rpG x 1 := by
  funext i
  by_cases h : i < 1
  · obtain rfl : i = 0 := by omega
    rfl
  · rw [over_f (by omega)]
    unfold rpG
    rw [decide_eq_false h]; rfl
theorem rpG_more (x : Ct) (n k : Nat) (hk : k ≤ n) : overR (0 + n) k (fun i => rpG x n (i + (0 + 0))) (rpG x n) = rpG x (n + k) := by
  funext i
  by_cases h : 0 + n ≤ i ∧ i < 0 + n + k
  · rw [over_t h.1 h.2, rpG_lt (m := n + k) (by omega)]
    exact rpG_lt (by omega)
  · rw [over_f h]
    unfold rpG
    by_cases h2 : i < n
    · rw [decide_eq_true h2, decide_eq_true (show i < n + k by omega)]
    · rw [decide_eq_false h2, decide_eq_false (show ¬ i < n + k by omega)]
end Go.Se
namespace Go.Se
/-! Parsing. -/
def doW : ByteArray := ⟨#[100, 111]⟩
def scriptW : ByteArray := ⟨#[115, 99, 114, 105, 112, 116]⟩
def endW : ByteArray := ⟨#[101, 110, 100]⟩
/-- A line of controls: the book behind it, and the controls. -/
def lineB (all : Int) (b : Bk) : Bk := takeB all b doW 6 8
def lnN (all : Int) (b : Bk) : Int := tkN (lineB all b) (takeL b)
def lnB (all : Int) (b : Bk) : Bk := tkB (lineB all b) (takeL b) (takeL b).length
def lnC (all : Int) (b : Bk) : Ct := tkC (lineB all b) (takeL b) (takeL b).length
def lnNext (all : Int) (b : Bk) (L : List Ct) : Bk × List Ct :=
  bif decide (lnN all b > 16777216 - L.length) then (shapeBk (lnB all b), L)
  else bif (lnB all b).err == 0 then (lnB all b, L ++ List.replicate (lnN all b).toNat (lnC all b)) else (lnB all b, L)
def paLoop (all : Int) : Nat → Bk → List Ct → Bk × List Ct
  | 0, b, L => (b, L)
  | f + 1, b, L => bif nextV b doW then (bif takeN b doW 6 8 then (lineB all b, L) else paLoop all f (lnNext all b L).1 (lnNext all b L).2) else (b, L)
def paBk (l : List Int) : Bk := takeB (allB l) (openB l) scriptW 0 0
def paAll (l : List Int) : Bk × List Ct := paLoop (allB l) ((paBk l).q.length + 1) (paBk l) []
def paEnd (l : List Int) : Bk := takeB (allB l) (paAll l).1 endW 0 0
/-- What is wrong first; where; the controls. -/
def parseE (l : List Int) : Int := endE (paEnd l)
def parseAt (l : List Int) : Int := bif endE (paEnd l) != 0 then endAt (paEnd l) else 0
def parseL (l : List Int) : List Ct := bif endE (paEnd l) != 0 then [] else (paAll l).2
end Go.Se
namespace Go.Se
theorem take_len {b : Bk} {w : ByteArray} {lo hi : Int} (h : takeN b w lo hi = false) : lo ≤ (takeL b).length ∧ ((takeL b).length : Int) ≤ hi ∨ (headQ b.q).2 = [] := by
  unfold takeN takeE at h
  rw [Bool.or_eq_false_iff] at h
  have h2 := h.2
  cases hq : b.q.isEmpty with
  | true => rw [hq] at h2; cases h2
  | false =>
    rw [hq] at h2
    simp only [cond_false] at h2
    cases hw : !(bytesOf ((headQ b.q).2.getD 0 []) == w) with
    | true => rw [hw] at h2; cases h2
    | false =>
      rw [hw] at h2
      simp only [cond_false] at h2
      cases hl : decide ((((headQ b.q).2.length : Int) - 1) < lo) || decide ((((headQ b.q).2.length : Int) - 1) > hi) with
      | true => rw [hl] at h2; cases h2
      | false =>
        rw [Bool.or_eq_false_iff, decide_eq_false_iff_not, decide_eq_false_iff_not] at hl
        by_cases he : (headQ b.q).2 = []
        · exact .inr he
        · have := List.length_pos_iff.2 he
          left
          unfold takeL
          rw [List.length_tail]
          omega
theorem fail_err {b : Bk} {e a : Int} (h : (failB b e a).err = 0) : b.err = 0 ∧ e = 0 := by
  unfold failB at h
  cases hb : b.err == 0 with
  | false =>
    rw [hb] at h
    have h : b.err = 0 := h
    rw [h] at hb; cases hb
  | true =>
    have hb0 : b.err = 0 := by simpa using hb
    refine ⟨hb0, ?_⟩
    by_cases he : e = 0
    · exact he
    · rw [hb, show (e != 0) = true by simp [he]] at h
      exact h
theorem int_ok {b : Bk} {l : List Int} {lo hi : Int} (h : (intBk b l lo hi).err = 0) : b.err = 0 ∧ lo ≤ intV b l lo hi ∧ intV b l lo hi ≤ hi := by
  obtain ⟨h1, h2⟩ := fail_err h
  refine ⟨h1, ?_⟩
  unfold intV
  rw [h2, h1]
  unfold intE at h2
  cases hw : wholeE l == 0 with
  | false => rw [hw] at h2; cases h2
  | true =>
    rw [hw] at h2
    simp only [cond_true] at h2
    cases hr : decide (wholeV l < lo) || decide (wholeV l > hi) with
    | true => rw [hr] at h2; cases h2
    | false =>
      rw [Bool.or_eq_false_iff, decide_eq_false_iff_not, decide_eq_false_iff_not] at hr
      show lo ≤ wholeV l ∧ wholeV l ≤ hi
      omega
theorem one_err {b : Bk} {s : ByteArray} {ws : List ByteArray} (h : (oneBk b s ws).err = 0) : b.err = 0 ∧ wordI s ws < ws.length := by
  obtain ⟨h1, h2⟩ := fail_err h
  refine ⟨h1, ?_⟩
  unfold oneE at h2
  cases hd : decide (wordI s ws < ws.length) with
  | true => exact of_decide_eq_true hd
  | false => rw [hd] at h2; cases h2
theorem tkB_err {b : Bk} {p : List (List Int)} {n : Nat} (h : (tkB b p n).err = 0) : (tk6 b p).err = 0 := by
  unfold tkB tkB7 at h
  cases h8 : n == 8 with
  | true => rw [h8] at h; exact (one_err (one_err (one_err h).1).1).1
  | false =>
    rw [h8] at h
    simp only [cond_false] at h
    cases h7 : n == 7 with
    | true => rw [h7] at h; exact (one_err h).1
    | false => rw [h7] at h; exact h
/-- A line without an error tells of one control at least, and of such as may be. -/
theorem tk_range {b : Bk} {p : List (List Int)} {n : Nat} (h : (tkB b p n).err = 0) : (1 ≤ tkN b p ∧ tkN b p ≤ 16777216) ∧ okP (tkC b p n) := by
  obtain ⟨a6, r6⟩ := int_ok (tkB_err h)
  obtain ⟨a5, r5⟩ := int_ok a6
  obtain ⟨a4, r4⟩ := int_ok a5
  obtain ⟨a3, r3⟩ := int_ok a4
  obtain ⟨a2, r2⟩ := int_ok a3
  obtain ⟨_, r1⟩ := int_ok a2
  exact ⟨r1, r2.1, r2.2, r3.1, r3.2, r4.1, r4.2, r5.1, r5.2, r6.1, r6.2⟩
theorem tells_rep {T : TypeId} {c : Ct} {n : Nat} (h : 1 ≤ n) : tellsL T 7 1 ctC (List.replicate n c) (.own 1 0 7 n) (some (.row T 7 n (rpG c n))) := by
  refine .inr ⟨rpG c n, by simp; omega, by simp, by simp, fun j hj => ?_⟩
  rw [List.length_replicate] at hj
  rw [rpG_lt hj, List.getElem_replicate]
theorem tells_more {T : TypeId} {c : Ct} {n : Nat} {L : List Ct} {g : Nat → List SV} (hg : ∀ j (h : j < L.length), g j = ctC L[j]) (hL : L ≠ []) :
    tellsL T 7 1 ctC (L ++ List.replicate n c) (.own 1 0 7 (L.length + n)) (some (.row T 7 (L.length + n) (catR L.length g (rpG c n)))) := by
  refine .inr ⟨catR L.length g (rpG c n), by simp [hL], by simp, by simp, fun j hj => ?_⟩
  unfold catR
  by_cases h : j < L.length
  · rw [show j.blt L.length = true by simpa [Nat.blt_eq] using h, cond_true, List.getElem_append_left h]
    exact hg j h
  · rw [show j.blt L.length = false by rw [← Bool.not_eq_true]; simpa [Nat.blt_eq] using h, cond_false, List.getElem_append_right (Nat.not_lt.1 h), List.getElem_replicate]
    rw [List.length_append, List.length_replicate] at hj
    exact rpG_lt (by omega)
end Go.Se
namespace Go.Se
theorem failB_q {b : Bk} {e a : Int} : (failB b e a).q = b.q := by unfold failB; cases b.err == 0 && e != 0 <;> rfl
theorem tkB_q {b : Bk} {p : List (List Int)} {n : Nat} : (tkB b p n).q = b.q := by
  have h6 : (tk6 b p).q = b.q := by unfold tk6 tk5 tk4 tk3 tk2 tk1 intBk; simp only [failB_q]
  unfold tkB tkB7 oneBk
  cases n == 8
  · cases n == 7
    · exact h6
    · simp only [cond_true, cond_false, failB_q]; exact h6
  · simp only [cond_true, failB_q]; exact h6
theorem okBk_q {b c : Bk} (h : okBk b) (hq : c.q = b.q) : okBk c := ⟨by rw [hq]; exact h.wf, by rw [hq]; exact h.len, by rw [hq]; exact h.all⟩
theorem lnNext_q {all : Int} {b : Bk} {L : List Ct} : (lnNext all b L).1.q = (lineB all b).q := by
  unfold lnNext lnB shapeBk
  cases decide (lnN all b > 16777216 - (L.length : Int))
  · cases (tkB (lineB all b) (takeL b) (takeL b).length).err == 0 <;> exact tkB_q
  · simp only [cond_true, failB_q]; exact tkB_q
theorem line_q {all : Int} {b : Bk} (h : takeN b doW 6 8 = false) : (lineB all b).q = b.q.tail := by
  unfold takeN at h
  rw [Bool.or_eq_false_iff] at h
  obtain ⟨_, t⟩ := tk_ok (b := b) (w := doW) (lo := 6) (hi := 8) (all := all) (by simpa using h.1) (by simpa using h.2)
  unfold lineB
  rw [t]
theorem lnNext_len {all : Int} {b : Bk} {L : List Ct} (h : L.length ≤ 16777216) : (lnNext all b L).2.length ≤ 16777216 := by
  unfold lnNext
  cases hd : decide (lnN all b > 16777216 - (L.length : Int)) with
  | true => exact h
  | false =>
    have := of_decide_eq_false hd
    cases (lnB all b).err == 0
    · exact h
    · simp only [cond_true, cond_false, List.length_append, List.length_replicate]
      omega
end Go.Se

/- A text of controls, read back: plain. -/
namespace Go.Se
/-- A word's letters: none parts, ends a line, or begins a remark. -/
def plainW (w : List Int) : Prop := ∀ x, x ∈ w → sepC x = false ∧ x ≠ 10 ∧ x ≠ 35
theorem wholeL_char (n : Int) : ∀ x, x ∈ wholeL n → x = 45 ∨ (48 ≤ x ∧ x ≤ 57) := fun x hx => by
  unfold wholeL signL at hx
  rcases List.mem_append.1 hx with hx | hx
  · cases h : decide (n < 0) with
    | true => rw [h] at hx; exact .inl (List.mem_singleton.1 hx)
    | false => rw [h] at hx; cases hx
  · exact .inr (digL10_digits (absI_nonneg n) x hx)
theorem sepC_f {x : Int} (h : x ≠ 32) (h2 : x ≠ 9) : sepC x = false := by
  unfold sepC
  rw [beq_false_of_ne h, beq_false_of_ne h2]; rfl
theorem plain_whole (n : Int) : plainW (wholeL n) := fun x hx => by
  have h := wholeL_char n x hx
  exact ⟨sepC_f (by omega) (by omega), by omega, by omega⟩
theorem wholeL_ne (n : Int) : wholeL n ≠ [] := fun e => by
  have h := congrArg List.length e
  unfold wholeL at h
  rw [List.length_append] at h
  have := digL10_min (absI n)
  have h : (signL n).length + (digL10 (absI n) 1).length = 0 := h
  omega
def tailW : List (List Int) → List Int
  | [] => []
  | w :: r => 32 :: (w ++ tailW r)
theorem fld_line : ∀ (r : List (List Int)) (w : List Int), w ≠ [] → plainW w → (∀ x, x ∈ r → x ≠ [] ∧ plainW x) → fldA [] (w ++ tailW r) = w :: r
  | [], w, h1, h2, _ => by
    rw [fldA_skip w [] (tailW []) (fun x hx => (h2 x hx).1), List.nil_append]
    show fldA w [] = [w]
    rw [fldA_nil]
    cases w with
    | nil => exact absurd rfl h1
    | cons => rfl
  | v :: r, w, h1, h2, h3 => by
    obtain ⟨v1, v2⟩ := h3 v (List.mem_cons_self ..)
    rw [fldA_skip w [] _ (fun x hx => (h2 x hx).1), List.nil_append]
    show fldA w (32 :: (v ++ tailW r)) = _
    rw [fldA_cons]
    show (bif w.isEmpty then fldA [] (v ++ tailW r) else w :: fldA [] (v ++ tailW r)) = _
    rw [fld_line r v v1 v2 fun x hx => h3 x (List.mem_cons_of_mem _ hx)]
    cases w with
    | nil => exact absurd rfl h1
    | cons => rfl
theorem hasC_not {c : Int} : ∀ {l : List Int}, (∀ x, x ∈ l → x ≠ c) → hasC c l = false
  | [], _ => rfl
  | a :: l, h => by
    unfold hasC
    rw [beq_false_of_ne (h a (List.mem_cons_self ..)), hasC_not (l := l) fun x hx => h x (List.mem_cons_of_mem _ hx)]; rfl
theorem tail_mem : ∀ (r : List (List Int)) (x : Int), (∀ v, v ∈ r → plainW v) → x ∈ tailW r → x ≠ 10 ∧ x ≠ 35
  | [], x, _, h => by cases h
  | v :: r, x, h, hx => by
    rcases List.mem_cons.1 hx with rfl | hx
    · exact ⟨by decide, by decide⟩
    rcases List.mem_append.1 hx with hx | hx
    · exact (h v (List.mem_cons_self ..) x hx).2
    · exact tail_mem r x (fun v hv => h v (List.mem_cons_of_mem _ hv)) hx
theorem lnR_line : ∀ (u w r : List Int), (∀ x, x ∈ u → x ≠ 10) → lnR w (u ++ 10 :: r) = (w ++ u) :: lnR [] r
  | [], w, r, _ => by rw [List.append_nil]; rfl
  | a :: u, w, r, h => by
    rw [List.cons_append]
    conv => lhs; unfold lnR
    rw [beq_false_of_ne (h a (List.mem_cons_self ..)), cond_false, lnR_line u (w ++ [a]) r fun x hx => h x (List.mem_cons_of_mem _ hx), List.append_assoc]; rfl
/-- A line of words is these words. -/
theorem nb_line {w rest : List Int} {r : List (List Int)} {k : Int} (h1 : w ≠ []) (h2 : plainW w) (h3 : ∀ x, x ∈ r → x ≠ [] ∧ plainW x) :
    nbF k (lnR [] (w ++ tailW r ++ 10 :: rest)) = (k + 1, w :: r) :: nbF (k + 1) (lnR [] rest) := by
  have hm : ∀ x, x ∈ w ++ tailW r → x ≠ 10 ∧ x ≠ 35 := fun x hx => by
    rcases List.mem_append.1 hx with hx | hx
    · exact (h2 x hx).2
    · exact tail_mem r x (fun v hv => (h3 v hv).2) hx
  rw [lnR_line _ _ _ fun x hx => (hm x hx).1, List.nil_append]
  conv => lhs; unfold nbF
  have : piecesL (w ++ tailW r) = w :: r := by
    unfold piecesL
    rw [cutH_none 35 _ (hasC_not fun x hx => (hm x hx).2), fld_line r w h1 h2 h3]
  rw [this]; rfl
theorem whole_back {n : Int} (h0 : -999999999999999999 ≤ n) (h1 : n ≤ 999999999999999999) : wholeE (wholeL n) = 0 ∧ wholeV (wholeL n) = n := by
  have ha := absI_nonneg n
  have hb : absI n < 1000000000000000000 := absI_lt (by omega) (by omega)
  have hWd : allD (digL10 (absI n) 1) := digL10_digits ha
  have hW1 := digL10_min (absI n)
  have hW2 := digL10_small (k := 18) ha (show absI n < 10 ^ 18 by omega) (by decide)
  have hw : wholeL n = signL n ++ (digL10 (absI n) 1 ++ []) := by rw [List.append_nil]; rfl
  obtain ⟨m1, m2⟩ := minus_sign (n := n) (m := []) hWd hW1
  have hnum := num_ok (most := 18) hWd hW1 (by omega) (by omega)
  have hval := valD_digL10 (least := 1) ha (show absI n < 18446744073709551616 by omega)
  unfold wholeE wholeV
  rw [hw, m1, m2, List.append_nil, hnum.1, hnum.2, hval]
  refine ⟨rfl, ?_⟩
  unfold absI
  cases h : decide (n < 0)
  · rfl
  · show - -n = n
    omega
theorem intE_back {n lo hi : Int} (h0 : -999999999999999999 ≤ n) (h1 : n ≤ 999999999999999999) (hl : lo ≤ n) (hh : n ≤ hi) : intE (wholeL n) lo hi = 0 := by
  obtain ⟨a, b⟩ := whole_back h0 h1
  unfold intE
  rw [a, b, decide_eq_false (show ¬ n < lo by omega), decide_eq_false (show ¬ n > hi by omega)]; rfl
theorem failB_0 {b : Bk} {a : Int} : failB b 0 a = b := by unfold failB; cases b.err == 0 <;> rfl
theorem listOf_whole (n : Int) : listOf (bytesOf (wholeL n)) = wholeL n := list_bytes (wholeL_inByte n)
theorem int_back {b : Bk} {n lo hi : Int} (hb : b.err = 0) (h0 : -999999999999999999 ≤ n) (h1 : n ≤ 999999999999999999) (hl : lo ≤ n) (hh : n ≤ hi) :
    intBk b (listOf (bytesOf (wholeL n))) lo hi = b ∧ intV b (listOf (bytesOf (wholeL n))) lo hi = n := by
  have e := intE_back h0 h1 hl hh
  unfold intBk intV
  rw [listOf_whole, e, hb, (whole_back h0 h1).2]
  exact ⟨failB_0, rfl⟩
end Go.Se
namespace Go.Se
def autoK : List Int := [97, 117, 116, 111]
def resetK : List Int := [114, 101, 115, 101, 116]
def flagW (b : Bool) (w : List Int) : List (List Int) := bif b then [w] else []
def numsW (k : Int) (c : Ct) : List (List Int) := [wholeL k, wholeL c.t, wholeL c.b, wholeL c.c, wholeL c.s, wholeL c.g]
def rnW (k : Int) (c : Ct) : List (List Int) := numsW k c ++ (flagW c.a autoK ++ flagW c.r resetK)
theorem rnT_line (k : Int) (c : Ct) (rest : List Int) : rnT k c ++ rest = [100, 111] ++ tailW (rnW k c) ++ 10 :: rest := by
  unfold rnT rnW numsW sp flagT flagW autoK resetK
  cases c.a <;> cases c.r <;> simp [tailW]
theorem plain_do : plainW [100, 111] := fun x hx => by
  simp only [List.mem_cons, List.not_mem_nil, or_false] at hx
  exact ⟨sepC_f (by omega) (by omega), by omega, by omega⟩
theorem rnW_plain (k : Int) (c : Ct) : ∀ x, x ∈ rnW k c → x ≠ [] ∧ plainW x := fun x hx => by
  have num : ∀ n, wholeL n ≠ [] ∧ plainW (wholeL n) := fun n => ⟨wholeL_ne n, plain_whole n⟩
  unfold rnW at hx
  rcases List.mem_append.1 hx with hx | hx
  · unfold numsW at hx
    simp only [List.mem_cons, List.not_mem_nil, or_false] at hx
    rcases hx with rfl | rfl | rfl | rfl | rfl | rfl <;> exact num _
  · have key : ∀ (b : Bool) (w : List Int), (w = autoK ∨ w = resetK) → x ∈ flagW b w → x ≠ [] ∧ plainW x := fun b w hw h => by
      cases b
      · cases h
      · obtain rfl := List.mem_singleton.1 h
        rcases hw with rfl | rfl
        · refine ⟨by decide, fun y hy => ?_⟩
          simp only [autoK, List.mem_cons, List.not_mem_nil, or_false] at hy
          exact ⟨sepC_f (by omega) (by omega), by omega, by omega⟩
        · refine ⟨by decide, fun y hy => ?_⟩
          simp only [resetK, List.mem_cons, List.not_mem_nil, or_false] at hy
          exact ⟨sepC_f (by omega) (by omega), by omega, by omega⟩
    rcases List.mem_append.1 hx with hx | hx
    · exact key _ _ (.inl rfl) hx
    · exact key _ _ (.inr rfl) hx
theorem one_back {b : Bk} {s : ByteArray} {ws : List ByteArray} (h : wordI s ws < ws.length) : oneBk b s ws = b := by
  unfold oneBk oneE
  rw [decide_eq_true h]
  exact failB_0
theorem tk_back {b : Bk} {k : Int} {c : Ct} (hb : b.err = 0) (hk : 1 ≤ k) (hk2 : k ≤ 16777216) (hc : okP c) :
    tkN b (rnW k c) = k ∧ tkC b (rnW k c) (rnW k c).length = c ∧ tkB b (rnW k c) (rnW k c).length = b := by
  obtain ⟨t0, t1, b0, b1, c0, c1, s0, s1, g0, g1⟩ := hc
  have e0 := int_back (b := b) hb (n := k) (lo := 1) (hi := 16777216) (by omega) (by omega) hk hk2
  have e1 := int_back (b := b) hb (n := c.t) (lo := 0) (hi := 255) (by omega) (by omega) t0 t1
  have e2 := int_back (b := b) hb (n := c.b) (lo := 0) (hi := 255) (by omega) (by omega) b0 b1
  have e3 := int_back (b := b) hb (n := c.c) (lo := 0) (hi := 255) (by omega) (by omega) c0 c1
  have e4 := int_back (b := b) hb (n := c.s) (lo := -127) (hi := 127) (by omega) (by omega) s0 s1
  have e5 := int_back (b := b) hb (n := c.g) (lo := -1) (hi := 8) (by omega) (by omega) g0 g1
  have w0 : pw (rnW k c) 0 = bytesOf (wholeL k) := rfl
  have w1 : pw (rnW k c) 1 = bytesOf (wholeL c.t) := rfl
  have w2 : pw (rnW k c) 2 = bytesOf (wholeL c.b) := rfl
  have w3 : pw (rnW k c) 3 = bytesOf (wholeL c.c) := rfl
  have w4 : pw (rnW k c) 4 = bytesOf (wholeL c.s) := rfl
  have w5 : pw (rnW k c) 5 = bytesOf (wholeL c.g) := rfl
  have k1 : tk1 b (rnW k c) = b := by unfold tk1; rw [w0]; exact e0.1
  have k2 : tk2 b (rnW k c) = b := by unfold tk2; rw [w1, k1]; exact e1.1
  have k3 : tk3 b (rnW k c) = b := by unfold tk3; rw [w2, k2]; exact e2.1
  have k4 : tk4 b (rnW k c) = b := by unfold tk4; rw [w3, k3]; exact e3.1
  have k5 : tk5 b (rnW k c) = b := by unfold tk5; rw [w4, k4]; exact e4.1
  have k6 : tk6 b (rnW k c) = b := by unfold tk6; rw [w5, k5]; exact e5.1
  have aA : wordI autoW [autoW, resetW] = 0 := by decide
  have aR : wordI resetW [autoW, resetW] = 1 := by decide
  have a1 : wordI autoW [autoW] = 0 := by decide
  have r1 : wordI resetW [resetW] = 0 := by decide
  refine ⟨by unfold tkN; rw [w0]; exact e0.2, ?_, ?_⟩
  · unfold tkC
    rw [w1, w2, w3, w4, w5, k1, k2, k3, k4, k5, e1.2, e2.2, e3.2, e4.2, e5.2]
    obtain ⟨xt, xb, xc, xs, xg, xa, xr⟩ := c
    unfold tkA tkR tkO oneV
    rw [k6, hb]
    cases xa <;> cases xr
    · rfl
    · have w6 : pw (rnW k ⟨xt, xb, xc, xs, xg, false, true⟩) 6 = resetW := rfl
      rw [w6, aR]; rfl
    · have w6 : pw (rnW k ⟨xt, xb, xc, xs, xg, true, false⟩) 6 = autoW := rfl
      rw [w6, aA]; rfl
    · rfl
  · obtain ⟨xt, xb, xc, xs, xg, xa, xr⟩ := c
    unfold tkB tkB7
    rw [k6]
    cases xa <;> cases xr
    · rfl
    · have w6 : pw (rnW k ⟨xt, xb, xc, xs, xg, false, true⟩) 6 = resetW := rfl
      rw [w6, one_back (b := b) (s := resetW) (by rw [aR]; decide)]; rfl
    · have w6 : pw (rnW k ⟨xt, xb, xc, xs, xg, true, false⟩) 6 = autoW := rfl
      rw [w6, one_back (b := b) (s := autoW) (by rw [aA]; decide)]; rfl
    · have w6 : pw (rnW k ⟨xt, xb, xc, xs, xg, true, true⟩) 6 = autoW := rfl
      have w7 : pw (rnW k ⟨xt, xb, xc, xs, xg, true, true⟩) 7 = resetW := rfl
      rw [w6, w7, one_back (b := b) (s := autoW) (ws := [autoW, resetW]) (by rw [aA]; decide), one_back (b := b) (s := autoW) (ws := [autoW]) (by rw [a1]; decide), one_back (b := b) (s := resetW) (by rw [r1]; decide)]; rfl
theorem rnW_len (k : Int) (c : Ct) : 6 ≤ (rnW k c).length ∧ (rnW k c).length ≤ 8 := by
  unfold rnW numsW flagW
  cases c.a <;> cases c.r <;> simp
/-- A line of a run is read as this run. -/
theorem line_back {all j last pl k : Int} {c : Ct} {q : List (Int × List (List Int))} {L : List Ct} (hk : 1 ≤ k) (hk2 : k + L.length ≤ 16777216) (hc : okP c) :
    nextV ⟨(j, [100, 111] :: rnW k c) :: q, last, 0, pl⟩ doW = true ∧ takeN ⟨(j, [100, 111] :: rnW k c) :: q, last, 0, pl⟩ doW 6 8 = false ∧
      lnNext all ⟨(j, [100, 111] :: rnW k c) :: q, last, 0, pl⟩ L = (⟨q, j, 0, pl⟩, L ++ List.replicate k.toNat c) := by
  have hw : (bytesOf [100, 111] == doW) = true := by decide
  obtain ⟨l6, l8⟩ := rnW_len k c
  have hE : takeE ⟨(j, [100, 111] :: rnW k c) :: q, last, 0, pl⟩ doW 6 8 = 0 := by
    unfold takeE
    show (bif !(bytesOf [100, 111] == doW) then (21 : Int) else bif decide ((((rnW k c).length + 1 : Nat) : Int) - 1 < 6) || decide ((((rnW k c).length + 1 : Nat) : Int) - 1 > 8) then 22 else 0) = 0
    rw [hw, decide_eq_false (by omega), decide_eq_false (by omega)]; rfl
  have hT : lineB all ⟨(j, [100, 111] :: rnW k c) :: q, last, 0, pl⟩ = ⟨q, j, 0, pl⟩ := by
    unfold lineB takeB
    rw [hE]; rfl
  have hL : takeL ⟨(j, [100, 111] :: rnW k c) :: q, last, 0, pl⟩ = rnW k c := rfl
  obtain ⟨t1, t2, t3⟩ := tk_back (b := ⟨q, j, 0, pl⟩) (k := k) (c := c) rfl hk (by omega) hc
  refine ⟨?_, ?_, ?_⟩
  · show (true && (true && (bytesOf [100, 111] == doW))) = true
    rw [hw]; rfl
  · unfold takeN
    rw [hE]; rfl
  · unfold lnNext lnN lnB lnC
    rw [hT, hL, t1, t2, t3, decide_eq_false (by omega)]; rfl
theorem firstIx_before {p : Nat → Bool} : ∀ (f i j : Nat), i ≤ j → j < firstIx p f i → p j = false
  | 0, i, j, h1, h2 => by
    have h2 : j < i := h2
    omega
  | f + 1, i, j, h1, h2 => by
    cases hp : p i with
    | true => rw [firstIx_hit hp] at h2; omega
    | false =>
      rw [firstIx_miss hp] at h2
      by_cases h : j = i
      · rw [h]; exact hp
      · exact firstIx_before f (i + 1) j (by omega) h2
theorem rnN_same {X : Nat → Ct} {n p i : Nat} (h : i < rnN X n p) : X (p + i) = X p := by
  unfold rnN runK at h
  have := firstIx_before _ 0 i (Nat.zero_le _) h
  simp only [Bool.not_eq_false', Nat.zero_add] at this
  rw [Nat.add_comm, eqCt_iff.1 this]
def ctsX (X : Nat → Ct) (p m : Nat) : List Ct := (List.range' p m).map X
theorem ctsX_run {X : Nat → Ct} {n p : Nat} (hp : p ≤ n) : ctsX X p (n - p) = List.replicate (rnN X n p) (X p) ++ ctsX X (p + rnN X n p) (n - (p + rnN X n p)) := by
  have h := rnN_le (X := X) (n := n) (p := p)
  have e : List.range' p (n - p) = List.range' p (rnN X n p) ++ List.range' (p + rnN X n p) (n - (p + rnN X n p)) := by
    have := List.range'_append (s := p) (m := rnN X n p) (n := n - (p + rnN X n p)) (step := 1)
    rw [Nat.one_mul] at this
    rw [this]
    congr 1
    omega
  unfold ctsX
  rw [e, List.map_append]
  congr 1
  refine List.eq_replicate_iff.2 ⟨by simp, fun b hb => ?_⟩
  obtain ⟨i, hi, rfl⟩ := List.mem_map.1 hb
  rw [List.mem_range'_1] at hi
  obtain ⟨d, rfl⟩ : ∃ d, i = p + d := ⟨i - p, by omega⟩
  exact rnN_same (n := n) (by omega)
theorem pa_back {X : Nat → Ct} {n : Nat} {all : Int} (hn : n ≤ 16777216) (hX : ∀ i, i < n → okP (X i)) : ∀ (f p : Nat) (k last : Int) (L : List Ct) (g : Nat), n ≤ p + f → L.length = p → p ≤ n →
    (nbF k (lnR [] (bodyT X n f p ++ [101, 110, 100, 10]))).length ≤ g →
    ∃ j last', paLoop all g ⟨nbF k (lnR [] (bodyT X n f p ++ [101, 110, 100, 10])), last, 0, 0⟩ L = (⟨[(j, [[101, 110, 100]])], last', 0, 0⟩, L ++ ctsX X p (n - p)) := by
  have fin : ∀ (f p : Nat) (k last : Int) (L : List Ct) (g : Nat), n ≤ p →
      ∃ j last', paLoop all g ⟨nbF k (lnR [] (bodyT X n f p ++ [101, 110, 100, 10])), last, 0, 0⟩ L = (⟨[(j, [[101, 110, 100]])], last', 0, 0⟩, L ++ ctsX X p (n - p)) := fun f p k last L g h => by
    have e : nbF k (lnR [] ([] ++ [101, 110, 100, 10])) = [(k + 1, [[101, 110, 100]])] := rfl
    rw [bodyT_end h, e, show n - p = 0 by omega]
    refine ⟨k + 1, last, ?_⟩
    rw [show ctsX X p 0 = [] from rfl, List.append_nil]
    cases g <;> rfl
  intro f
  induction f with
  | zero => intro p k last L g h1 _ _ _; exact fin 0 p k last L g (by omega)
  | succ f ih =>
    intro p k last L g h1 h2 h3 h4
    by_cases hp : n ≤ p
    · exact fin (f + 1) p k last L g hp
    have hp : p < n := by omega
    have r1 := rnN_pos (X := X) hp
    have r2 := rnN_le (X := X) (n := n) (p := p)
    have e : nbF k (lnR [] (bodyT X n (f + 1) p ++ [101, 110, 100, 10])) = (k + 1, [100, 111] :: rnW (rnN X n p) (X p)) :: nbF (k + 1) (lnR [] (bodyT X n f (p + rnN X n p) ++ [101, 110, 100, 10])) := by
      rw [bodyT_step hp, List.append_assoc, rnT_line]
      exact nb_line (by decide) plain_do (rnW_plain _ _)
    rw [e] at h4 ⊢
    obtain ⟨g, rfl⟩ : ∃ g', g = g' + 1 := ⟨g - 1, by rw [List.length_cons] at h4; omega⟩
    obtain ⟨a1, a2, a3⟩ := line_back (all := all) (j := k + 1) (last := last) (pl := 0) (k := rnN X n p) (c := X p) (q := nbF (k + 1) (lnR [] (bodyT X n f (p + rnN X n p) ++ [101, 110, 100, 10]))) (L := L) (by omega) (by omega) (hX p hp)
    obtain ⟨j, last', hh⟩ := ih (p + rnN X n p) (k + 1) (k + 1) (L ++ List.replicate (rnN X n p) (X p)) g (by omega) (by rw [List.length_append, List.length_replicate, h2]) (by omega) (by rw [List.length_cons] at h4; omega)
    refine ⟨j, last', ?_⟩
    conv => lhs; unfold paLoop
    rw [a1, a2, a3, cond_true, cond_false, Int.toNat_natCast, hh, List.append_assoc, ← ctsX_run h3]
/-- What was printed is parsed as what it was. -/
theorem parse_back {X : Nat → Ct} {n : Nat} (hn : n ≤ 16777216) (hX : ∀ i, i < n → okP (X i)) :
    parseE (printT X n) = 0 ∧ parseAt (printT X n) = 0 ∧ parseL (printT X n) = ctsX X 0 n := by
  have e : nbF 0 (linesL (printT X n)) = (1, [[115, 99, 114, 105, 112, 116]]) :: nbF 1 (lnR [] (bodyT X n (n - 0) 0 ++ [101, 110, 100, 10])) := by
    have := nb_line (w := [115, 99, 114, 105, 112, 116]) (rest := bodyT X n (n - 0) 0 ++ [101, 110, 100, 10]) (r := []) (k := 0) (by decide)
      (fun x hx => by
        simp only [List.mem_cons, List.not_mem_nil, or_false] at hx
        exact ⟨sepC_f (by omega) (by omega), by omega, by omega⟩) (fun x hx => by cases hx)
    unfold linesL printT textS
    rw [List.append_assoc]
    exact this
  have hB : paBk (printT X n) = ⟨nbF 1 (lnR [] (bodyT X n (n - 0) 0 ++ [101, 110, 100, 10])), 1, 0, 0⟩ := by
    unfold paBk openB
    rw [e]; rfl
  obtain ⟨j, last', hh⟩ := pa_back (all := allB (printT X n)) hn hX (n - 0) 0 1 1 [] ((paBk (printT X n)).q.length + 1) (by omega) rfl (Nat.zero_le _) (by rw [hB]; exact Nat.le_succ _)
  have hA : paAll (printT X n) = (⟨[(j, [[101, 110, 100]])], last', 0, 0⟩, ctsX X 0 n) := by
    unfold paAll
    rw [hB] at hh ⊢
    exact hh
  have hEnd : paEnd (printT X n) = ⟨[], j, 0, 0⟩ := by
    unfold paEnd
    rw [hA]; rfl
  unfold parseE parseAt parseL
  rw [hEnd, hA]
  exact ⟨rfl, rfl, rfl⟩
end Go.Se

/- What is parsed may be, and its text is short: plain. -/
namespace Go.Se
structure posB (b : Bk) : Prop where
  last : 0 ≤ b.last
  place : 0 ≤ b.place
  q : ∀ x, x ∈ b.q → 0 ≤ x.1
theorem posB.fail {b : Bk} {e a : Int} (h : posB b) (ha : 0 ≤ a) : posB (failB b e a) := by
  unfold failB
  cases b.err == 0 && e != 0
  · exact h
  · exact ⟨h.last, ha, h.q⟩
theorem posB.head {b : Bk} (h : posB b) : 0 ≤ (headQ b.q).1 := by
  cases hq : b.q with
  | nil => exact Int.le_refl 0
  | cons x q => exact h.q x (by rw [hq]; exact List.mem_cons_self ..)
theorem posB.take {b : Bk} {all lo hi : Int} {w : ByteArray} (h : posB b) (ha : 0 ≤ all) : posB (takeB all b w lo hi) := by
  have hh := h.head
  unfold takeB
  cases b.err != 0
  · cases takeE b w lo hi == 0
    · refine ⟨h.last, ?_, h.q⟩
      cases b.q.isEmpty
      · exact hh
      · show 0 ≤ all + 1
        omega
    · exact ⟨hh, h.place, fun x hx => h.q x (List.mem_of_mem_tail hx)⟩
  · exact h
theorem posB.int {b : Bk} {l : List Int} {lo hi : Int} (h : posB b) : posB (intBk b l lo hi) := h.fail h.last
theorem posB.one {b : Bk} {s : ByteArray} {ws : List ByteArray} (h : posB b) : posB (oneBk b s ws) := h.fail h.last
theorem posB.tk {b : Bk} {p : List (List Int)} {n : Nat} (h : posB b) : posB (tkB b p n) := by
  have h6 : posB (tk6 b p) := h.int.int.int.int.int.int
  unfold tkB tkB7
  cases n == 8
  · cases n == 7
    · exact h6
    · exact h6.one
  · exact h6.one.one.one
theorem posB.at {b : Bk} (h : posB b) : 0 ≤ endAt b := by
  unfold endAt
  cases b.err != 0
  · cases b.q.isEmpty
    · exact h.head
    · exact h.place
  · exact h.place
theorem nbF_pos : ∀ (l : List (List Int)) (k : Int), 0 ≤ k → ∀ x, x ∈ nbF k l → 0 ≤ x.1
  | [], _, _, x, hx => by cases hx
  | t :: r, k, h, x, hx => by
    unfold nbF at hx
    cases ht : (piecesL t).isEmpty with
    | true => rw [ht] at hx; exact nbF_pos r (k + 1) (by omega) x hx
    | false =>
      rw [ht] at hx
      rcases List.mem_cons.1 hx with rfl | hx
      · show 0 ≤ k + 1
        omega
      · exact nbF_pos r (k + 1) (by omega) x hx

/-- How many runs a list has, behind one. -/
def stL : Option Ct → List Ct → Nat
  | _, [] => 0
  | o, a :: r => (bif decide (o = some a) then 0 else 1) + stL (some a) r
def lastO : Option Ct → List Ct → Option Ct
  | o, [] => o
  | _, a :: r => lastO (some a) r
theorem stL_app : ∀ (A B : List Ct) (o : Option Ct), stL o (A ++ B) = stL o A + stL (lastO o A) B
  | [], B, o => by show stL o B = 0 + stL o B; omega
  | a :: A, B, o => by
    show _ + stL (some a) (A ++ B) = _ + stL (some a) A + stL (lastO (some a) A) B
    rw [stL_app A B (some a)]; omega
theorem stL_rep0 (c : Ct) : ∀ n, stL (some c) (List.replicate n c) = 0 ∧ lastO (some c) (List.replicate n c) = some c
  | 0 => ⟨rfl, rfl⟩
  | n + 1 => by
    obtain ⟨a, b⟩ := stL_rep0 c n
    rw [List.replicate_succ]
    refine ⟨?_, b⟩
    show (bif decide (some c = some c) then 0 else 1) + stL (some c) (List.replicate n c) = 0
    rw [a, decide_eq_true rfl]; rfl
theorem stL_rep (o : Option Ct) (c : Ct) (n : Nat) : stL o (List.replicate n c) ≤ 1 := by
  cases n with
  | zero => exact Nat.zero_le _
  | succ n =>
    rw [List.replicate_succ]
    show (bif decide (o = some c) then 0 else 1) + stL (some c) (List.replicate n c) ≤ 1
    rw [(stL_rep0 c n).1]
    cases decide (o = some c) <;> decide
theorem stL_rep1 {o : Option Ct} {c : Ct} {n : Nat} (h : o ≠ some c) (hn : 1 ≤ n) : stL o (List.replicate n c) = 1 ∧ lastO o (List.replicate n c) = some c := by
  obtain ⟨m, rfl⟩ : ∃ m, n = m + 1 := ⟨n - 1, by omega⟩
  obtain ⟨a, b⟩ := stL_rep0 c m
  rw [List.replicate_succ]
  refine ⟨?_, b⟩
  show (bif decide (o = some c) then 0 else 1) + stL (some c) (List.replicate m c) = 1
  rw [a, decide_eq_false h]; rfl
theorem firstIx_at {p : Nat → Bool} : ∀ (f i : Nat), firstIx p f i < i + f → p (firstIx p f i) = true
  | 0, i, h => by
    have h : i < i + 0 := h
    omega
  | f + 1, i, h => by
    cases hp : p i with
    | true => rw [firstIx_hit hp]; exact hp
    | false =>
      rw [firstIx_miss hp] at h ⊢
      exact firstIx_at f (i + 1) (by omega)
theorem rnN_next {X : Nat → Ct} {n p : Nat} (h : p + rnN X n p < n) : X p ≠ X (p + rnN X n p) := by
  have e : rnN X n p = firstIx (fun i => !(eqCt (X (i + p)) (X (0 + p)))) (n - p) 0 := rfl
  rw [e] at h ⊢
  have := firstIx_at (p := fun i => !(eqCt (X (i + p)) (X (0 + p)))) (n - p) 0 (by omega)
  generalize firstIx (fun i => !(eqCt (X (i + p)) (X (0 + p)))) (n - p) 0 = k at *
  simp only [Bool.not_eq_true', Nat.zero_add] at this
  intro e
  rw [Nat.add_comm p k] at e
  rw [← e, eqCt_self] at this
  cases this
theorem bodyT_lines {X : Nat → Ct} {n : Nat} : ∀ (f p : Nat) (o : Option Ct), n ≤ p + f → (p < n → o ≠ some (X p)) → (bodyT X n f p).length ≤ 160 * stL o (ctsX X p (n - p))
  | 0, _, _, _, _ => Nat.zero_le _
  | f + 1, p, o, h1, h2 => by
    by_cases hp : n ≤ p
    · rw [bodyT_end hp]; exact Nat.zero_le _
    have hp : p < n := by omega
    have r1 := rnN_pos (X := X) hp
    obtain ⟨s1, s2⟩ := stL_rep1 (h2 hp) r1
    have ih := bodyT_lines (X := X) (n := n) f (p + rnN X n p) (some (X p)) (by omega) fun h e => rnN_next h (Option.some.inj e)
    have h3 := rnT_len (rnN X n p) (X p)
    rw [bodyT_step hp, ctsX_run (Nat.le_of_lt hp), stL_app, s1, s2, List.length_append]
    omega
theorem ctsX_list {L : List Ct} (d : Ct) : ctsX (fun i => L.getD i d) 0 L.length = L := by
  unfold ctsX
  refine List.ext_getElem (by simp) fun i h1 h2 => ?_
  rw [List.getElem_map, List.getElem_range', List.getD_eq_getElem?_getD]
  simp only [Nat.zero_add, Nat.one_mul]
  rw [List.getElem?_eq_getElem h2]; rfl
theorem printT_lines (L : List Ct) (d : Ct) : (printT (fun i => L.getD i d) L.length).length ≤ 11 + 160 * stL none L := by
  have h := bodyT_lines (X := fun i => L.getD i d) (n := L.length) (L.length - 0) 0 none (by omega) fun _ e => by cases e
  rw [Nat.sub_zero, ctsX_list] at h
  unfold printT textS
  rw [List.length_append, List.length_append]
  show 7 + _ + 4 ≤ _
  rw [Nat.sub_zero]
  omega
theorem paLoop_inv {all : Int} (ha : 0 ≤ all) : ∀ (g : Nat) (b : Bk) (L : List Ct) (m : Nat), posB b → (∀ c, c ∈ L → okP c) → L.length ≤ 16777216 → stL none L + b.q.length ≤ m →
    posB (paLoop all g b L).1 ∧ (∀ c, c ∈ (paLoop all g b L).2 → okP c) ∧ (paLoop all g b L).2.length ≤ 16777216 ∧ stL none (paLoop all g b L).2 ≤ m
  | 0, b, L, m, h1, h2, h3, h4 => ⟨h1, h2, h3, by show stL none L ≤ m; omega⟩
  | g + 1, b, L, m, h1, h2, h3, h4 => by
    unfold paLoop
    cases hn : nextV b doW with
    | false => exact ⟨h1, h2, h3, by show stL none L ≤ m; omega⟩
    | true =>
      rw [cond_true]
      cases ht : takeN b doW 6 8 with
      | true => exact ⟨h1.take ha, h2, h3, by show stL none L ≤ m; omega⟩
      | false =>
        rw [cond_false]
        have hq : (lnNext all b L).1.q = b.q.tail := lnNext_q.trans (line_q ht)
        have hne : b.q ≠ [] := fun e => by unfold nextV at hn; rw [e] at hn; simp at hn
        have hl : (lnNext all b L).1.q.length + 1 ≤ b.q.length := by
          rw [hq, List.length_tail]
          have := List.length_pos_iff.2 hne
          omega
        have hp : posB (lnB all b) := (h1.take ha).tk
        have hx := lnNext_len (all := all) (b := b) h3
        refine paLoop_inv ha g _ _ m ?_ ?_ hx ?_
        · unfold lnNext
          cases decide (lnN all b > 16777216 - (L.length : Int))
          · cases (lnB all b).err == 0 <;> exact hp
          · exact hp.fail hp.last
        · unfold lnNext
          cases decide (lnN all b > 16777216 - (L.length : Int))
          · cases he : (lnB all b).err == 0
            · exact h2
            · intro c hc
              rcases List.mem_append.1 hc with hc | hc
              · exact h2 c hc
              · rw [List.eq_of_mem_replicate hc]
                have he : (lnB all b).err = 0 := by simpa using he
                exact (tk_range (b := lineB all b) (p := takeL b) (n := (takeL b).length) he).2
          · exact h2
        · have : stL none (lnNext all b L).2 ≤ stL none L + 1 := by
            unfold lnNext
            cases decide (lnN all b > 16777216 - (L.length : Int))
            · cases (lnB all b).err == 0
              · exact Nat.le_succ _
              · show stL none (L ++ List.replicate (lnN all b).toNat (lnC all b)) ≤ _
                rw [stL_app]
                have := stL_rep (lastO none L) (lnC all b) (lnN all b).toNat
                omega
            · exact Nat.le_succ _
          omega
theorem open_pos (l : List Int) : posB (openB l) := ⟨Int.le_refl 0, Int.le_refl 0, nbF_pos _ 0 (Int.le_refl 0)⟩
/-- What is parsed: in any case; with an error; without. -/
theorem parse_facts (l : List Int) : (∀ c, c ∈ parseL l → okP c) ∧ (parseL l).length ≤ 16777216 ∧ stL none (parseL l) ≤ l.length + 1 ∧ 0 ≤ parseAt l ∧ (parseE l ≠ 0 → parseL l = []) := by
  have ha : 0 ≤ allB l := by unfold allB; omega
  have hq : (paBk l).q.length ≤ l.length + 1 := by
    have h1 := lnR_len l []
    have h2 := nbF_len (linesL l) 0
    have h3 : (paBk l).q.length ≤ (openB l).q.length := by
      unfold paBk takeB
      cases (openB l).err != 0
      · cases takeE (openB l) scriptW 0 0 == 0
        · exact Nat.le_refl _
        · show (openB l).q.tail.length ≤ _
          rw [List.length_tail]; omega
      · exact Nat.le_refl _
    unfold linesL at h2
    have h4 : (openB l).q.length = (nbF 0 (lnR [] l)).length := rfl
    omega
  obtain ⟨i1, i2, i3, i4⟩ := paLoop_inv ha ((paBk l).q.length + 1) (paBk l) [] (l.length + 1) ((open_pos l).take ha) (fun c hc => by cases hc) (Nat.zero_le _) (by show 0 + _ ≤ _; omega)
  have i5 : posB (paEnd l) := posB.take i1 ha
  have nil : (∀ c, c ∈ ([] : List Ct) → okP c) ∧ ([] : List Ct).length ≤ 16777216 ∧ stL none [] ≤ l.length + 1 := ⟨(fun c hc => nomatch hc), by decide, Nat.zero_le _⟩
  unfold parseL parseE parseAt
  cases he : endE (paEnd l) != 0
  · refine ⟨i2, i3, i4, Int.le_refl 0, fun h => ?_⟩
    have he : endE (paEnd l) = 0 := by simpa using he
    exact absurd he h
  · exact ⟨nil.1, nil.2.1, nil.2.2, i5.at, fun _ => rfl⟩
theorem bad_of {X : Nat → Ct} {n : Nat} (h : ∀ i, i < n → okP (X i)) : badIx X n = false := by
  unfold badIx ixFrom
  rw [Nat.sub_zero]
  cases hd : decide (firstIx (fun i => rightV (X i) != 0) n 0 < n) with
  | false => rfl
  | true =>
    have hd := of_decide_eq_true hd
    have := firstIx_at (p := fun i => rightV (X i) != 0) n 0 (by omega)
    rw [right_t (h _ hd)] at this
    cases this
theorem print_good {X : Nat → Ct} {n : Nat} (hn : n ≤ 16777216) (h : ∀ i, i < n → okP (X i)) : printE X n = 0 ∧ printR X n = printT X n := by
  have e : printE X n = 0 := by
    unfold printE
    rw [decide_eq_false (by omega), bad_of h]; rfl
  refine ⟨e, ?_⟩
  unfold printR
  rw [e]; rfl
theorem all_inByte {l : List Int} (h : (l.all fun x => decide (0 ≤ x) && decide (x ≤ 255)) = true) : inByte l := fun x hx => by
  have := List.all_eq_true.1 h x hx
  rw [Bool.and_eq_true] at this
  exact ⟨of_decide_eq_true this.1, of_decide_eq_true this.2⟩
theorem rnT_inByte (k : Int) (c : Ct) : inByte (rnT k c) := by
  have hs : ∀ n, inByte (sp (wholeL n)) := fun n x hx => by
    rcases List.mem_cons.1 hx with rfl | hx
    · exact ⟨by decide, by decide⟩
    · exact wholeL_inByte n x hx
  have hc : ∀ (b : Bool) (l : List Int), inByte l → inByte (flagT b l) := fun b l h x hx => by
    cases b
    · cases hx
    · exact h x hx
  unfold rnT
  refine app_inByte (app_inByte (app_inByte (app_inByte (app_inByte (app_inByte (app_inByte (app_inByte (app_inByte (all_inByte rfl) (hs _)) (hs _)) (hs _)) (hs _)) (hs _)) (hs _)) (hc _ _ (all_inByte rfl))) (hc _ _ (all_inByte rfl))) (all_inByte rfl)
theorem bodyT_inByte {X : Nat → Ct} {n : Nat} : ∀ (f p : Nat), inByte (bodyT X n f p)
  | 0, _ => fun x hx => by cases hx
  | f + 1, p => fun x hx => by
    by_cases h : p < n
    · rw [bodyT_step h] at hx
      rcases List.mem_append.1 hx with hx | hx
      · exact rnT_inByte _ _ x hx
      · exact bodyT_inByte f _ x hx
    · rw [bodyT_end (by omega)] at hx; cases hx
theorem printT_inByte (X : Nat → Ct) (n : Nat) : inByte (printT X n) := fun x hx => by
  unfold printT at hx
  rcases List.mem_append.1 hx with hx | hx
  · rcases List.mem_append.1 hx with hx | hx
    · simp only [List.mem_cons, List.not_mem_nil, or_false] at hx
      show 0 ≤ x ∧ x ≤ 255
      omega
    · exact bodyT_inByte _ _ x hx
  · simp only [List.mem_cons, List.not_mem_nil, or_false] at hx
    show 0 ≤ x ∧ x ≤ 255
    omega
end Go.Se

